/- Parts of the proof, laid together by a program of this session: Pa6, Pa7, Pa8, AxSpec, AxStep, AxTy, AxSane, AxLoop, AxPaths8, MLin, MGf, MMat, GfPure, MLin2, MMat2. -/
import Derived.Test.YtijebgceopddmaaDoorKr2
import Derived.Test.YtijebgceopddmaaDoorKr0
import Derived.Test.YtijebgceopddmaaDoorKr3
import Derived.Test.YtijebgceopddmaaDoorProg
import Derived.Test.YtijebgceopddmaaDoorKr1
set_option linter.unusedVariables false
set_option linter.unusedSimpArgs false
section
namespace Go.Proofs.YtijebgceopddmaaDoor.Pa
open Go.RowKit Go.Proofs.YtijebgceopddmaaDoor.Gf Go.Proofs.YtijebgceopddmaaDoor.Pr Go.Proofs.YtijebgceopddmaaDoorW.PrintWords Go.Proofs.YtijebgceopddmaaDoorW.PrintLast Go.Proofs.YtijebgceopddmaaDoorW.PrintMore
attribute [local go_sem] max2_int min2_int max_two min_two max_three min_three max_four min_four   -- for this text's walks alone
set_option linter.unusedVariables false
set_option linter.unusedSimpArgs false
def matrix_Product.l0 : Nat → List (List (List Int)) → Int → Int → List (List Int) → List (List Int) → Option ((List (List Int)) × Int)
 | 0, _, _, _, _, _ => none
 | k + 1, x11, x12, x13, x208000, x209000 => if x13 < x12 then (if 0 ≤ x13 then (if x13 < (x11.length : Int) then ((matrix_Check.f k (rd_L4 x11 x13)).bind fun t213 => (if t213 = 0 then (matrix_Product.l0 k x11 x12 (wrap64 (x13 + 1)) x208000 x209000) else (some (([] : List (List Int)), t213)))) else (none)) else (none)) else ((matrix_columns.f x208000).bind fun t214 => (if t214 = (x209000.length : Int) then ((matrix_columns.f x209000).bind fun t215 => ((grid_47.f (x208000.length : Int) t215 x208000 x209000).bind fun t216 => (some (t216, 0)))) else (some (([] : List (List Int)), 1))))
def matrix_Product.f (k : Nat) (l0 : List (List Int)) (l1 : List (List Int)) : Option ((List (List Int)) × Int) := (some (([l0, l1] : List (List (List Int))) : List (List (List Int)))).bind fun y209 => (matrix_Product.l0 k y209 (y209.length : Int) 0 l0 l1)
def matrix_Product.T10 : Bool × List (List Nat × List Nat) := (true, [([], []), ([0], [0]), ([], []), ([2], [2]), ([], []), ([1, 3, 4, 3], [1, 3, 4]), ([5, 5, 0, 1, 2, 3, 4, 5], [5]), ([6, 0, 1, 2, 3, 4, 5, 6], [])])
def matrix_Product.B10 : List Nat := [0, 1, 0, 4, 0, 31, 63, 127]
theorem matrix_Product.tab10 : rtab .any (opsOf Tryd.f28 10) = matrix_Product.T10 := by kernel_rfl
theorem matrix_Product.bits10 : waitsOk matrix_Product.T10.2 matrix_Product.B10 = true := by kernel_rfl
set_option maxHeartbeats 8000000 in
set_option maxRecDepth 100000 in
theorem matrix_Product.calls (k : Nat) (P0_ : Nat → Prop) (A0 : Option Addr) (c0 : Nat) (l0 : List (List Int)) (P1_ : Nat → Prop) (A1 : Option Addr) (c1 : Nat) (l1 : List (List Int)) (r1 : List (List Int)) (r2 : Int) (w : World) (hG : HighIn w) (hs0 : Kd.V (Kd.slice 5 (Kd.int .u8)) 43 w w.heap.size (fun k_ => P0_ k_) (.slice A0 l0.length c0) l0) (hs1 : Kd.V (Kd.slice 5 (Kd.int .u8)) 43 w w.heap.size (fun k_ => P1_ k_) (.slice A1 l1.length c1) l1) (h : matrix_Product.f k l0 l1 = some (r1, r2)) :
  Calls Tryd.prog 28 #[.slice A0 l0.length c0, .slice A1 l1.length c1] w fun e w' => ∃ v0_ : Value, e = .returned (.tuple #[v0_, .int .i64 r2]) ∧ Kd.N (Kd.slice 5 (Kd.int .u8)) 43 w' w.heap.size (fun k_ => ((P0_ k_ ∨ P1_ k_) ∨ w.heap.size ≤ k_)) v0_ r1 ∧ Below w.heap.size w w' := by
 have hmf : ∀ (fn : Fn) (first cap : Array Value) (w : World), (Instr.makeFunc fn first cap).run Tryd.prog w = .ok (.func fn first cap) w := fun _ _ _ _ => rfl
 have HG := Aside0.mk hG
 clear hG
 have HO0 := Aside0.mk (show Kd.V (Kd.slice 5 (Kd.int .u8)) 43 w w.heap.size (fun k_ => ((P0_ k_ ∨ P1_ k_) ∨ w.heap.size ≤ k_)) (.slice A0 l0.length c0) l0 from Kd.V_mono hs0 (fun k_ hk => .inl (.inl hk)))
 have HO1 := Aside0.mk (show Kd.V (Kd.slice 5 (Kd.int .u8)) 43 w w.heap.size (fun k_ => ((P0_ k_ ∨ P1_ k_) ∨ w.heap.size ≤ k_)) (.slice A1 l1.length c1) l1 from Kd.V_mono hs1 (fun k_ hk => .inl (.inr hk)))
 have HB := Aside0.mk (Below.refl w.heap.size w)
 have H : ((some (([l0, l1] : List (List (List Int))) : List (List (List Int)))).bind fun y209 => (matrix_Product.l0 k y209 (y209.length : Int) 0 l0 l1)) = some (r1, r2) := h
 clear h
 obtain ⟨y209, hy209⟩ : ∃ y_ : List (List (List Int)), y_ = (([l0, l1] : List (List (List Int)))) := ⟨_, rfl⟩
 replace H : (matrix_Product.l0 k y209 (y209.length : Int) 0 l0 l1) = some (r1, r2) := by first | (rw [hy209]; with_reducible exact H) | (have H2_ := (Option.bind_some _ _).symm.trans H; rw [hy209]; with_reducible exact H2_) | (have H2_ := (Option.bind_some _ _).symm.trans H; with_reducible exact H2_) | with_reducible exact H | (rw [hy209]; exact H) | exact H
 have Ny209 := Aside0.mk hy209
 clear hy209
 have H' := Aside0.mk H
 clear H
 go_enter Tryd.func28, Tryd.ntmps28
 go_wp2_with (first | ((with_reducible refine gate_dst (N := 2) rfl ?_); refine box_event ?hg (N := 2) ?hd (cs := #[.slice A0 l0.length c0]) (t := 22) ?hr ?_; (case hd => rfl); (case hg => rfl); (case hr => first | (go_simp; done) | (go_simp; rfl)); intro gb207 hg w3 hbox hb; have n0_ := Aside0.mk (Kd.V_below (Kd.V_elderB (by (with_reducible repeat (first | apply Kd.V_alloc | apply Kd.V_drewN | apply Kd.V_drew)); exact HO0.out) gb207 (Nat.le_of_eq hg.symm)) hb); have n1_ := Aside0.mk (Kd.V_below (Kd.V_elderB (by (with_reducible repeat (first | apply Kd.V_alloc | apply Kd.V_drewN | apply Kd.V_drew)); exact HO1.out) gb207 (Nat.le_of_eq hg.symm)) hb); have n2_ := Aside0.mk (below_step (by repeat (first | (with_reducible first | exact HB.out | apply below_alloc | apply pw_below_drewN | apply below_drew1) | exact HB.out)) hb); have n3_ := Aside0.mk (hbox); have n4_ := Aside0.mk ((by rw [hg]; exact (below_size (by repeat (first | (with_reducible first | exact HB.out | apply below_alloc | apply pw_below_drewN | apply below_drew1) | exact HB.out))) : w.heap.size ≤ gb207)); have n5_ := Aside0.mk ((by rw [hg]; exact (below_size (by repeat (first | (with_reducible first | exact HB.out | apply below_alloc | apply pw_below_drewN | apply below_drew1) | exact HB.out))) : w.heap.size ≤ gb207)); clear HO0; clear HO1; clear HB; have HO0 := n0_; have HO1 := n1_; have HB := n2_; have BK207 := n3_; have GW207 := n4_; have GE207 := n5_; clear n0_ n1_ n2_ n3_ n4_ n5_; clear hb hbox hg) | ((with_reducible refine gate_dst (N := 3) rfl ?_); refine box_event ?hg (N := 3) ?hd (cs := #[.slice A1 l1.length c1]) (t := 22) ?hr ?_; (case hd => rfl); (case hg => rfl); (case hr => first | (go_simp; done) | (go_simp; rfl)); intro gb208 hg w4 hbox hb; have n0_ := Aside0.mk (Kd.V_below (Kd.V_elderB (by (with_reducible repeat (first | apply Kd.V_alloc | apply Kd.V_drewN | apply Kd.V_drew)); exact HO0.out) gb208 (Nat.le_of_eq hg.symm)) hb); have n1_ := Aside0.mk (Kd.V_below (Kd.V_elderB (by (with_reducible repeat (first | apply Kd.V_alloc | apply Kd.V_drewN | apply Kd.V_drew)); exact HO1.out) gb208 (Nat.le_of_eq hg.symm)) hb); have n2_ := Aside0.mk (blk_below (g := gb207) (o := .cells #[.slice A0 l0.length c0] 22 (0, 0)) (by (with_reducible repeat (first | refine blk_drewN ?_ _ | refine blk_drew ?_ | refine blk_alloc ?_ _)); exact BK207.out) hb); have n3_ := Aside0.mk (below_step (by repeat (first | (with_reducible first | exact HB.out | apply below_alloc | apply pw_below_drewN | apply below_drew1 | refine below_set ?_ GE207.out) | exact HB.out)) hb); have n4_ := Aside0.mk (hbox); have n5_ := Aside0.mk ((by rw [hg]; exact (below_size (by repeat (first | (with_reducible first | exact HB.out | apply below_alloc | apply pw_below_drewN | apply below_drew1 | refine below_set ?_ GE207.out) | exact HB.out))) : w.heap.size ≤ gb208)); have n6_ := Aside0.mk ((by rw [hg]; exact (below_size (by repeat (first | (with_reducible first | exact HB.out | apply below_alloc | apply pw_below_drewN | apply below_drew1 | refine below_set ?_ GE207.out) | exact HB.out))) : w.heap.size ≤ gb208)); have n7_ := Aside0.mk ((by rw [hg]; exact Nat.ne_of_lt (blk_lt (g := gb207) (o := .cells #[.slice A0 l0.length c0] 22 (0, 0)) (by (with_reducible repeat (first | refine blk_drewN ?_ _ | refine blk_drew ?_ | refine blk_alloc ?_ _)); exact BK207.out)) : gb207 ≠ gb208)); have n8_ := Aside0.mk ((by rw [hg]; exact Nat.ne_of_gt (blk_lt (g := gb207) (o := .cells #[.slice A0 l0.length c0] 22 (0, 0)) (by (with_reducible repeat (first | refine blk_drewN ?_ _ | refine blk_drew ?_ | refine blk_alloc ?_ _)); exact BK207.out)) : gb208 ≠ gb207)); clear HO0; clear HO1; clear BK207; clear HB; have HO0 := n0_; have HO1 := n1_; have BK207 := n2_; have HB := n3_; have BK208 := n4_; have GW208 := n5_; have GE208 := n6_; have NB207_208 := n7_; have NB208_207 := n8_; clear n0_ n1_ n2_ n3_ n4_ n5_ n6_ n7_ n8_; clear hb hbox hg; have hnb5 := NB207_208.out; have hnc5 := NB208_207.out; have hcz6_0 : w4.cell? ⟨gb207, 0, none⟩ = some (.slice A0 l0.length c0) := (blk_cell BK207.out 0).trans rfl; have hfz6_0 := blk_frozen BK207.out 0; have hcz7_0 : w4.cell? ⟨gb208, 0, none⟩ = some (.slice A1 l1.length c1) := (blk_cell BK208.out 0).trans rfl; have hfz7_0 := blk_frozen BK208.out 0) | ((with_reducible refine gate_dst (N := 11) rfl ?_); refine Kd.N_lit (Kd.slice 43 (Kd.slice 5 (Kd.int .u8))) _ 22 ?hg (N' := 11) ?hd (xs := ([l0, l1] : List (List (List Int)))) (inner := [.slice A0 l0.length c0, .slice A1 l1.length c1]) (ok := (fun k_ => ((P0_ k_ ∨ P1_ k_) ∨ w.heap.size ≤ k_) ∧ k_ ≠ gb207 ∧ k_ ≠ gb208)) (okp := (fun k_ => ((P0_ k_ ∨ P1_ k_) ∨ w.heap.size ≤ k_) ∧ k_ ≠ gb207 ∧ k_ ≠ gb208)) ?hr ?hp (fun _ hk => hk) ((show ∀ k_, w4.heap.size ≤ k_ → (fun k_ => ((P0_ k_ ∨ P1_ k_) ∨ w.heap.size ≤ k_) ∧ k_ ≠ gb207 ∧ k_ ≠ gb208) k_ from fun k_ hk => ⟨(.inr (Nat.le_trans (below_size (by repeat (first | (with_reducible first | exact HB.out | apply below_alloc | apply pw_below_drewN | apply below_drew1 | refine below_set ?_ GE207.out | refine below_set ?_ GE208.out) | exact HB.out))) hk)), Kd.freshB (g := gb207) (o := .cells #[.slice A0 l0.length c0] 22 (0, 0)) (by (with_reducible repeat (first | refine blk_drewN ?_ _ | refine blk_drew ?_ | refine blk_alloc ?_ _)); exact BK207.out) k_ hk, Kd.freshB (g := gb208) (o := .cells #[.slice A1 l1.length c1] 22 (0, 0)) (by (with_reducible repeat (first | refine blk_drewN ?_ _ | refine blk_drew ?_ | refine blk_alloc ?_ _)); exact BK208.out) k_ hk⟩) _ (Nat.le_refl _)) (Below.refl _ _) (Nat.le_refl _) (by simp) ?_; (case hd => rfl); (case hg => rfl); (case hr => first | (go_simp; done) | (go_simp; rfl)); (case hp => exact (Reps.one (show Kd.FK (Kd.slice 43 (Kd.slice 5 (Kd.int .u8))) _ _ l0 [.slice A0 l0.length c0] from (Kd.FK_slice_mk (Kd.V_reads' (Kd.V_mono (ok' := (fun k_ => ((P0_ k_ ∨ P1_ k_) ∨ w.heap.size ≤ k_) ∧ k_ ≠ gb207 ∧ k_ ≠ gb208)) (HO0.out) (fun k_ hk => ⟨hk.1.1, ⟨hk.1.2, hk.2⟩⟩))).2.1 (Kd.V_F (Kd.V_mono (ok' := (fun k_ => ((P0_ k_ ∨ P1_ k_) ∨ w.heap.size ≤ k_) ∧ k_ ≠ gb207 ∧ k_ ≠ gb208)) (HO0.out) (fun k_ hk => ⟨hk.1.1, ⟨hk.1.2, hk.2⟩⟩))))) (Reps.one (show Kd.FK (Kd.slice 43 (Kd.slice 5 (Kd.int .u8))) _ _ l1 [.slice A1 l1.length c1] from (Kd.FK_slice_mk (Kd.V_reads' (Kd.V_mono (ok' := (fun k_ => ((P0_ k_ ∨ P1_ k_) ∨ w.heap.size ≤ k_) ∧ k_ ≠ gb207 ∧ k_ ≠ gb208)) (HO1.out) (fun k_ hk => ⟨hk.1.1, ⟨hk.1.2, hk.2⟩⟩))).2.1 (Kd.V_F (Kd.V_mono (ok' := (fun k_ => ((P0_ k_ ∨ P1_ k_) ∨ w.heap.size ≤ k_) ∧ k_ ≠ gb207 ∧ k_ ≠ gb208)) (HO1.out) (fun k_ hk => ⟨hk.1.1, ⟨hk.1.2, hk.2⟩⟩))))) (Reps.none _ _)))); intro v210 w8 ho9 hb hg_ hnew_; clear hg_ hnew_; (first | rw [← Ny209.out] at ho9 | (simp only [Int.reduceToNat] at ho9; rw [← Ny209.out] at ho9)); have n0_ := Aside0.mk (Kd.V_elder' (by (with_reducible repeat (first | apply Kd.V_alloc | apply Kd.V_drewN | apply Kd.V_drew)); exact HO0.out) (by first | exact Kd.N_base ho9 | exact Kd.S_base ho9 | exact Kd.R_base ho9) hb); have n1_ := Aside0.mk (Kd.V_elder' (by (with_reducible repeat (first | apply Kd.V_alloc | apply Kd.V_drewN | apply Kd.V_drew)); exact HO1.out) (by first | exact Kd.N_base ho9 | exact Kd.S_base ho9 | exact Kd.R_base ho9) hb); have n2_ := Aside0.mk (Kd.N_lower ho9 (below_size (by repeat (first | (with_reducible first | exact HB.out | apply below_alloc | apply pw_below_drewN | apply below_drew1 | refine below_set ?_ GE207.out | refine below_set ?_ GE208.out) | exact HB.out)))); have n3_ := Aside0.mk (blk_below (g := gb207) (o := .cells #[.slice A0 l0.length c0] 22 (0, 0)) (by (with_reducible repeat (first | refine blk_drewN ?_ _ | refine blk_drew ?_ | refine blk_alloc ?_ _)); exact BK207.out) hb); have n4_ := Aside0.mk (blk_below (g := gb208) (o := .cells #[.slice A1 l1.length c1] 22 (0, 0)) (by (with_reducible repeat (first | refine blk_drewN ?_ _ | refine blk_drew ?_ | refine blk_alloc ?_ _)); exact BK208.out) hb); have n5_ := Aside0.mk (below_step (by repeat (first | (with_reducible first | exact HB.out | apply below_alloc | apply pw_below_drewN | apply below_drew1 | refine below_set ?_ GE207.out | refine below_set ?_ GE208.out) | exact HB.out)) hb); clear HO0; clear HO1; clear BK207; clear BK208; clear HB; have HO0 := n0_; have HO1 := n1_; have HO211 := n2_; have BK207 := n3_; have BK208 := n4_; have HB := n5_; clear n0_ n1_ n2_ n3_ n4_ n5_; clear hb ho9; obtain ⟨Ao10, co10, eo10⟩ := Kd.N_slice HO211.out; subst eo10))
 go_loopg [13] k (fun kq v13 w' => ∃ (x13_1 : Int), v13 = .int .i64 x13_1 ∧ Aside0 (matrix_Product.l0 kq y209 (y209.length : Int) x13_1 l0 l1 = some (r1, r2)) ∧ Aside0 (kq ≤ k) ∧ Aside0 (Kd.N (Kd.slice 43 (Kd.slice 5 (Kd.int .u8))) 22 w' w.heap.size (fun k_ => ((P0_ k_ ∨ P1_ k_) ∨ w.heap.size ≤ k_) ∧ k_ ≠ gb207 ∧ k_ ≠ gb208) (.slice Ao10 y209.length co10) y209) ∧ Aside0 (Kd.V (Kd.slice 5 (Kd.int .u8)) 43 w' w.heap.size (fun k_ => ((P0_ k_ ∨ P1_ k_) ∨ w.heap.size ≤ k_) ∧ some k_ ≠ ((.slice Ao10 y209.length co10) : Value).ownBlock ∧ k_ ≠ gb207 ∧ k_ ≠ gb208) (.slice A0 l0.length c0) l0) ∧ Aside0 (Kd.V (Kd.slice 5 (Kd.int .u8)) 43 w' w.heap.size (fun k_ => ((P0_ k_ ∨ P1_ k_) ∨ w.heap.size ≤ k_) ∧ some k_ ≠ ((.slice Ao10 y209.length co10) : Value).ownBlock ∧ k_ ≠ gb207 ∧ k_ ≠ gb208) (.slice A1 l1.length c1) l1) ∧ Aside0 (w'.heap[gb207]? = some (.cells #[(.slice A0 l0.length c0)] 22 (0, 0))) ∧ Aside0 (w'.heap[gb208]? = some (.cells #[(.slice A1 l1.length c1)] 22 (0, 0))) ∧ Aside0 (Below w.heap.size w w'))
 case atStart => exact ⟨(0), (by first | rfl | (simp; done) | (simp [*]; done)), H', ⟨Nat.le_refl _⟩, ⟨by (with_reducible repeat (first | apply Kd.N_alloc | apply Kd.N_drewN | apply Kd.N_drew)); exact HO211.out⟩, ⟨by (with_reducible repeat (first | apply Kd.V_alloc | apply Kd.V_drewN | apply Kd.V_drew)); exact Kd.V_mono HO0.out (fun _ hk => ⟨hk.1.1.1, ⟨hk.2, ⟨hk.1.1.2, hk.1.2⟩⟩⟩)⟩, ⟨by (with_reducible repeat (first | apply Kd.V_alloc | apply Kd.V_drewN | apply Kd.V_drew)); exact Kd.V_mono HO1.out (fun _ hk => ⟨hk.1.1.1, ⟨hk.2, ⟨hk.1.1.2, hk.1.2⟩⟩⟩)⟩, ⟨by (with_reducible repeat (first | refine blk_drewN ?_ _ | refine blk_drew ?_ | refine blk_alloc ?_ _)); exact BK207.out⟩, ⟨by (with_reducible repeat (first | refine blk_drewN ?_ _ | refine blk_drew ?_ | refine blk_alloc ?_ _)); exact BK208.out⟩, ⟨by repeat (first | (with_reducible first | exact HB.out | apply below_alloc | apply pw_below_drewN | apply below_drew1 | refine below_set ?_ GE207.out | refine below_set ?_ GE208.out) | exact HB.out)⟩⟩
 case round =>
  clear H'
  try clear c1
  try clear c2
  try clear p2
  try clear c5
  try clear hcz6_0
  try clear hcz7_0
  try clear hfz6_0
  try clear hfz7_0
  obtain ⟨x13_1, rfl, HA, HK1, HO_11, HO_208000, HO_209000, BK207, BK208, HB⟩ := hrel
  cases gk with
  | zero => exact absurd HA.out (by simp [matrix_Product.l0])
  | succ k1 =>
   have H := HA.out
   clear HA
   simp only [matrix_Product.l0] at H
   by_cases c11 : x13_1 < (y209.length : Int)
   ·rw [if_pos c11] at H
    have c11b0 : decide (x13_1 < (y209.length : Int)) = true := decide_eq_true c11
    clear c11
    by_cases c12 : 0 ≤ x13_1
    ·rw [if_pos c12] at H
     have c12b0 : decide (0 ≤ x13_1) = true := decide_eq_true c12
     clear c12
     by_cases c13 : x13_1 < (y209.length : Int)
     ·rw [if_pos c13] at H
      have c13b0 : decide (x13_1 < (y209.length : Int)) = true := decide_eq_true c13
      clear c13
      replace H := Option.bind_eq_some_iff.mp H
      obtain ⟨t213, A140, H⟩ := H
      replace H : (if t213 = 0 then (matrix_Product.l0 k1 y209 (y209.length : Int) (wrap64 (x13_1 + 1)) l0 l1) else (some (([] : List (List Int)), t213))) = some (r1, r2) := H
      have A14 := Aside0.mk A140
      clear A140
      by_cases c15 : t213 = 0
      ·rw [if_pos c15] at H
       have c15b0 : (t213 == 0) = true := beq_iff_eq.mpr c15
       have c15b1 : (t213 != 0) = false := bne_eq_false_iff_eq.mpr c15
       clear c15
       have H' := Aside0.mk H
       clear H
       have p212 : 0 ≤ (x13_1 : Int) := of_decide_eq_true (by first | (with_reducible assumption) | assumption)
       have q212 : x13_1 < (y209.length : Int) := of_decide_eq_true (by first | (with_reducible assumption) | assumption)
       obtain ⟨ad212, A212_0, c212_0, e212, hx212_0, hl212_0, hi212_0⟩ := at_L4 (Kd.N_reads' HO_11.out).2.2 x13_1 p212 q212
       cases e212
       obtain ⟨ce212, hce212, hMe212, hcc212⟩ := Kd.N_get HO_11.out [] x13_1 p212 (by first | exact q212 | exact of_decide_eq_true (by first | (with_reducible assumption) | assumption) | (have e_ := (Kd.N_reads' HO_11.out).1; omega))
       obtain ⟨ua212_0, uc212_0, rfl, ul212_0, ge212_0⟩ := Kd.FK_slice_open hMe212
       have hv212_0 := hcc212 0 _ rfl
       rw [Nat.add_zero, show ((Kd.slice 43 (Kd.slice 5 (Kd.int .u8)))).sz = 1 from rfl, Nat.mul_one] at hv212_0
       replace hv212_0 := Option.some.inj (hv212_0.symm.trans hx212_0)
       injection hv212_0 with hva_ hvn_ hvc_
       rw [hva_] at ge212_0
       rw [hvc_] at ul212_0
       have HL212_0 := Aside0.mk (show Kd.V (Kd.slice 5 (Kd.int .u8)) 43 _ w.heap.size _ _ (rd_L4 y209 x13_1) from Kd.V_mk ul212_0 ge212_0)
       clear hva_ hvn_ hvc_ ge212_0 ul212_0
       clear hcc212 hce212
       have HR212_0 := Aside0.mk hi212_0
       have HC212_0 := Aside0.mk hl212_0
       clear hi212_0 hl212_0
       replace p212 := eq_true p212
       replace q212 := eq_true q212
       go_wp2_with (first | ((with_reducible refine gate_callee (f := 16) rfl ?_); refine goesL_ (some 18) rfl rfl Tryd.func16 (by kernel_rfl) rfl #[.slice A212_0 (rd_L4 y209 x13_1).length c212_0] rfl (by (try simp only [List.map_toArray, List.map_cons, List.map_nil]); first | done | rfl | (simp only [List.length_drop, List.length_take]; rfl)) ?_; (with_reducible refine (matrix_Check.calls k1 _ _ (rd_L4 y209 x13_1) t213 _ ?side1 ?side2 A14.out).mono ?_); (case side1 => repeat (first | exact (by repeat (first | (with_reducible exact HR212_0.out) | (with_reducible refine Kd.C_alloc ?_ _) | (with_reducible refine Kd.C_drewN ?_ _) | (with_reducible refine Kd.C_drew ?_) | exact HR212_0.out)) | (with_reducible refine Kd.C_alloc ?_ _) | (with_reducible refine Kd.C_drewN ?_ _) | (with_reducible refine Kd.C_drew ?_))); (case side2 => exact HC212_0.out); rintro e w' ⟨rfl, ⟨nd, rfl⟩⟩; refine ⟨_, rfl, ?_⟩))
       go_roundg k1
       case measure => have := HK1.out; omega
       case rel => exact ⟨(wrap64 (x13_1 + 1)), (by first | rfl | (simp; done) | (simp [*]; done)), H', ⟨by have := HK1.out; omega⟩, ⟨by (with_reducible repeat (first | apply Kd.N_alloc | apply Kd.N_drewN | apply Kd.N_drew)); exact HO_11.out⟩, ⟨by (with_reducible repeat (first | apply Kd.V_alloc | apply Kd.V_drewN | apply Kd.V_drew)); exact HO_208000.out⟩, ⟨by (with_reducible repeat (first | apply Kd.V_alloc | apply Kd.V_drewN | apply Kd.V_drew)); exact HO_209000.out⟩, ⟨by (with_reducible repeat (first | refine blk_drewN ?_ _ | refine blk_drew ?_ | refine blk_alloc ?_ _)); exact BK207.out⟩, ⟨by (with_reducible repeat (first | refine blk_drewN ?_ _ | refine blk_drew ?_ | refine blk_alloc ?_ _)); exact BK208.out⟩, ⟨by repeat (first | (with_reducible first | exact HB.out | apply below_alloc | apply pw_below_drewN | apply below_drew1 | refine below_set ?_ GE207.out | refine below_set ?_ GE208.out) | exact HB.out)⟩⟩
      ·rw [if_neg c15] at H
       have c15b0 : (t213 == 0) = false := beq_eq_false_iff_ne.mpr c15
       have c15b1 : (t213 != 0) = true := bne_iff_ne.mpr c15
       simp only [Option.some.injEq, Prod.mk.injEq] at H
       obtain ⟨rfl, rfl⟩ := H
       have p212 : 0 ≤ (x13_1 : Int) := of_decide_eq_true (by first | (with_reducible assumption) | assumption)
       have q212 : x13_1 < (y209.length : Int) := of_decide_eq_true (by first | (with_reducible assumption) | assumption)
       obtain ⟨ad212, A212_0, c212_0, e212, hx212_0, hl212_0, hi212_0⟩ := at_L4 (Kd.N_reads' HO_11.out).2.2 x13_1 p212 q212
       cases e212
       obtain ⟨ce212, hce212, hMe212, hcc212⟩ := Kd.N_get HO_11.out [] x13_1 p212 (by first | exact q212 | exact of_decide_eq_true (by first | (with_reducible assumption) | assumption) | (have e_ := (Kd.N_reads' HO_11.out).1; omega))
       obtain ⟨ua212_0, uc212_0, rfl, ul212_0, ge212_0⟩ := Kd.FK_slice_open hMe212
       have hv212_0 := hcc212 0 _ rfl
       rw [Nat.add_zero, show ((Kd.slice 43 (Kd.slice 5 (Kd.int .u8)))).sz = 1 from rfl, Nat.mul_one] at hv212_0
       replace hv212_0 := Option.some.inj (hv212_0.symm.trans hx212_0)
       injection hv212_0 with hva_ hvn_ hvc_
       rw [hva_] at ge212_0
       rw [hvc_] at ul212_0
       have HL212_0 := Aside0.mk (show Kd.V (Kd.slice 5 (Kd.int .u8)) 43 _ w.heap.size _ _ (rd_L4 y209 x13_1) from Kd.V_mk ul212_0 ge212_0)
       clear hva_ hvn_ hvc_ ge212_0 ul212_0
       clear hcc212 hce212
       have HR212_0 := Aside0.mk hi212_0
       have HC212_0 := Aside0.mk hl212_0
       clear hi212_0 hl212_0
       replace p212 := eq_true p212
       replace q212 := eq_true q212
       go_wp2_with (first | ((with_reducible refine gate_callee (f := 16) rfl ?_); refine goesL_ (some 18) rfl rfl Tryd.func16 (by kernel_rfl) rfl #[.slice A212_0 (rd_L4 y209 x13_1).length c212_0] rfl (by (try simp only [List.map_toArray, List.map_cons, List.map_nil]); first | done | rfl | (simp only [List.length_drop, List.length_take]; rfl)) ?_; (with_reducible refine (matrix_Check.calls k1 _ _ (rd_L4 y209 x13_1) t213 _ ?side1 ?side2 A14.out).mono ?_); (case side1 => repeat (first | exact (by repeat (first | (with_reducible exact HR212_0.out) | (with_reducible refine Kd.C_alloc ?_ _) | (with_reducible refine Kd.C_drewN ?_ _) | (with_reducible refine Kd.C_drew ?_) | exact HR212_0.out)) | (with_reducible refine Kd.C_alloc ?_ _) | (with_reducible refine Kd.C_drewN ?_ _) | (with_reducible refine Kd.C_drew ?_))); (case side2 => exact HC212_0.out); rintro e w' ⟨rfl, ⟨nd, rfl⟩⟩; refine ⟨_, rfl, ?_⟩))
       go_ret2
       exact ⟨_, by first | rfl | (simp [errW_none, errW_some] <;> rfl) | (simp [*, errW_none, errW_some] <;> rfl), by first | exact Kd.S_nil _ _ _ _ _ | exact Kd.N_nil _ _ _ _ _ | exact Kd.V_nil _ _ _ _ _ | exact Kd.Q_nil _ _ _ _ _ | exact Kd.R_nil _ _ _ _ _, by repeat (first | (with_reducible first | exact HB.out | apply below_alloc | apply pw_below_drewN | apply below_drew1 | refine below_set ?_ GE207.out | refine below_set ?_ GE208.out) | exact HB.out)⟩
     ·rw [if_neg c13] at H
      exact absurd H (by simp)
    ·rw [if_neg c12] at H
     exact absurd H (by simp)
   ·rw [if_neg c11] at H
    have c11b0 : decide (x13_1 < (y209.length : Int)) = false := decide_eq_false c11
    clear c11
    replace H := Option.bind_eq_some_iff.mp H
    obtain ⟨t214, A160, H⟩ := H
    replace H : (if t214 = (l1.length : Int) then ((matrix_columns.f l1).bind fun t215 => ((grid_47.f (l0.length : Int) t215 l0 l1).bind fun t216 => (some (t216, 0)))) else (some (([] : List (List Int)), 1))) = some (r1, r2) := H
    have A16 := Aside0.mk A160
    clear A160
    by_cases c17 : t214 = (l1.length : Int)
    ·rw [if_pos c17] at H
     have c17b0 : (t214 == (l1.length : Int)) = true := beq_iff_eq.mpr c17
     have c17b1 : (t214 != (l1.length : Int)) = false := bne_eq_false_iff_eq.mpr c17
     clear c17
     replace H := Option.bind_eq_some_iff.mp H
     obtain ⟨t215, A180, H⟩ := H
     replace H : ((grid_47.f (l0.length : Int) t215 l0 l1).bind fun t216 => (some (t216, 0))) = some (r1, r2) := H
     have A18 := Aside0.mk A180
     clear A180
     replace H := Option.bind_eq_some_iff.mp H
     obtain ⟨t216, A190, H⟩ := H
     replace H : (some (t216, 0)) = some (r1, r2) := H
     have A19 := Aside0.mk A190
     clear A190
     simp only [Option.some.injEq, Prod.mk.injEq] at H
     obtain ⟨rfl, rfl⟩ := H
     try go_wp2
     have n0_ := Aside0.mk (Kd.N_drew HO_11.out)
     have n1_ := Aside0.mk (Kd.V_drew HO_208000.out)
     have n2_ := Aside0.mk (Kd.V_drew HO_209000.out)
     have n3_ := Aside0.mk (blk_drew BK207.out)
     have n4_ := Aside0.mk (blk_drew BK208.out)
     have n5_ := Aside0.mk (below_drew1 HB.out)
     clear HO_11
     clear HO_208000
     clear HO_209000
     clear BK207
     clear BK208
     clear HB
     have HO_11 := n0_
     have HO_208000 := n1_
     have HO_209000 := n2_
     have BK207 := n3_
     have BK208 := n4_
     have HB := n5_
     clear n0_ n1_ n2_ n3_ n4_ n5_
     refine start_ (n := 5) (S := fun w' => w'.cell? ⟨gb207, 0, none⟩ = some (.slice A0 l0.length c0) ∧ w'.cell? ⟨gb208, 0, none⟩ = some (.slice A1 l1.length c1)) (ds := []) #[false, false, false, false, false] (by kernel_rfl) rfl rfl ⟨(blk_cell BK207.out 0).trans rfl, (blk_cell BK208.out 0).trans rfl⟩ (fun hHeld => ?_)
     generalize wr.drew = w20 at HO_11 HO_208000 HO_209000 BK207 BK208 HB hHeld ⊢
     refine take_ (i := 0) (N := some 23) (v := ?_) (a' := ?_) #[true, false, false, false, false] rfl rfl (by kernel_rfl) (fun _ _ _ h => h) (Or.inl ⟨by rfl, ?_⟩) hHeld ?_ ?_
     rotate_left
     ·rintro w' ⟨s0, s1⟩
      (try simp only [Int.toNat_natCast] at s0 s1)
      go_simp
      with_reducible rfl
     rotate_left
     ·simp only [Act.put, List.setIfInBounds_toArray, List.set_cons_zero, List.set_cons_succ, i64_w, i32_w]
      rfl
     refine take_ (i := 2) (N := some 25) (v := ?_) (a' := ?_) #[true, false, true, false, false] rfl rfl (by kernel_rfl) (fun _ _ _ h => h) (Or.inl ⟨by rfl, ?_⟩) hHeld ?_ ?_
     rotate_left
     ·rintro w' ⟨s0, s1⟩
      (try simp only [Int.toNat_natCast] at s0 s1)
      go_simp
      with_reducible rfl
     rotate_left
     ·simp only [Act.put, List.setIfInBounds_toArray, List.set_cons_zero, List.set_cons_succ, i64_w, i32_w]
      rfl
     refine pure_ (i := 3) (N := some 26) (v := ?_) (a' := ?_) #[true, false, true, true, false] rfl rfl (by kernel_rfl) (fun _ _ _ h => h) (Or.inl ⟨by rfl, ?_⟩) ?_ ?_
     rotate_left
     ·intro w'
      go_simp
      with_reducible rfl
     rotate_left
     ·simp only [Act.put, List.setIfInBounds_toArray, List.set_cons_zero, List.set_cons_succ, i64_w, i32_w]
      rfl
     refine one_ (i := 1) (N := some 24) #[true, true, true, true, false] rfl rfl (by kernel_rfl) (by decide) (fun K hK => ?_)
     refine goes_ Tryd.func36 (by kernel_rfl) rfl #[.slice A0 l0.length c0] (by rfl) rfl rfl (by (try simp only [List.map_toArray, List.map_cons, List.map_nil]); first | done | rfl | (simp only [List.length_drop, List.length_take]; rfl)) ?_
     with_reducible refine (matrix_columns.calls _ _ l0 t214 _ ?side1 ?side2 A16.out).mono ?_
     (case side1 => repeat (first | exact (Kd.V_reads' HO_208000.out).2.2 | (with_reducible refine Kd.C_alloc ?_ _) | (with_reducible refine Kd.C_drewN ?_ _) | (with_reducible refine Kd.C_drew ?_)))
     (case side2 => exact (Kd.V_reads' HO_208000.out).2.1)
     rintro e w' ⟨rfl, ⟨nd, rfl⟩⟩
     refine ⟨_, rfl, ?_⟩
     refine hK.out _ _ ⟨(blk_cell BK207.out 0).trans rfl, (blk_cell BK208.out 0).trans rfl⟩ (fun hHeld => ?_)
     clear hK K
     refine norm_ (a' := ?_) ?_ ?_
     rotate_left
     ·show Act.put _ (some 24) _ = _
      simp only [Act.put, List.setIfInBounds_toArray, List.set_cons_zero, List.set_cons_succ, i64_w, i32_w]
      rfl
     refine pure_ (i := 4) (N := some 27) (v := ?_) (a' := ?_) #[true, true, true, true, true] rfl rfl (by kernel_rfl) (fun _ _ _ h => h) (Or.inl ⟨by rfl, ?_⟩) ?_ ?_
     rotate_left
     ·intro w'
      go_simp
      with_reducible rfl
     rotate_left
     ·simp only [Act.put, List.setIfInBounds_toArray, List.set_cons_zero, List.set_cons_succ, i64_w, i32_w]
      rfl
     refine done_ (by kernel_rfl) ?_
     try go_wp2
     (try (rw [drewN_self w20]; generalize hq_ : World.drewN w20 _ = w20; have n0_ : Aside0 (Kd.N (Kd.slice 43 (Kd.slice 5 (Kd.int .u8))) 22 w20 w.heap.size (fun k_ => ((P0_ k_ ∨ P1_ k_) ∨ w.heap.size ≤ k_) ∧ k_ ≠ gb207 ∧ k_ ≠ gb208) (.slice Ao10 y209.length co10) y209) := ⟨by rw [← hq_]; exact (by (with_reducible repeat (first | apply Kd.N_alloc | apply Kd.N_drewN | apply Kd.N_drew)); exact HO_11.out)⟩; have n1_ : Aside0 (Kd.V (Kd.slice 5 (Kd.int .u8)) 43 w20 w.heap.size (fun k_ => ((P0_ k_ ∨ P1_ k_) ∨ w.heap.size ≤ k_) ∧ some k_ ≠ (.slice Ao10 y209.length co10 : Value).ownBlock ∧ k_ ≠ gb207 ∧ k_ ≠ gb208) (.slice A0 l0.length c0) l0) := ⟨by rw [← hq_]; exact (by (with_reducible repeat (first | apply Kd.V_alloc | apply Kd.V_drewN | apply Kd.V_drew)); exact HO_208000.out)⟩; have n2_ : Aside0 (Kd.V (Kd.slice 5 (Kd.int .u8)) 43 w20 w.heap.size (fun k_ => ((P0_ k_ ∨ P1_ k_) ∨ w.heap.size ≤ k_) ∧ some k_ ≠ (.slice Ao10 y209.length co10 : Value).ownBlock ∧ k_ ≠ gb207 ∧ k_ ≠ gb208) (.slice A1 l1.length c1) l1) := ⟨by rw [← hq_]; exact (by (with_reducible repeat (first | apply Kd.V_alloc | apply Kd.V_drewN | apply Kd.V_drew)); exact HO_209000.out)⟩; have n3_ : Aside0 (w20.heap[gb207]? = some (.cells #[.slice A0 l0.length c0] 22 (0, 0))) := ⟨by rw [← hq_]; exact (by (with_reducible repeat (first | refine blk_drewN ?_ _ | refine blk_drew ?_ | refine blk_alloc ?_ _)); exact BK207.out)⟩; have n4_ : Aside0 (w20.heap[gb208]? = some (.cells #[.slice A1 l1.length c1] 22 (0, 0))) := ⟨by rw [← hq_]; exact (by (with_reducible repeat (first | refine blk_drewN ?_ _ | refine blk_drew ?_ | refine blk_alloc ?_ _)); exact BK208.out)⟩; have n5_ : Aside0 (Below w.heap.size w w20) := ⟨by rw [← hq_]; exact (by repeat (first | (with_reducible first | exact HB.out | apply below_alloc | apply pw_below_drewN | apply below_drew1 | refine below_set ?_ GE207.out | refine below_set ?_ GE208.out) | exact HB.out))⟩; clear HO_11 HO_208000 HO_209000 BK207 BK208 HB hq_; have HO_11 := n0_; have HO_208000 := n1_; have HO_209000 := n2_; have BK207 := n3_; have BK208 := n4_; have HB := n5_; clear n0_ n1_ n2_ n3_ n4_ n5_))
     have n0_ := Aside0.mk (Kd.N_drew HO_11.out)
     have n1_ := Aside0.mk (Kd.V_drew HO_208000.out)
     have n2_ := Aside0.mk (Kd.V_drew HO_209000.out)
     have n3_ := Aside0.mk (blk_drew BK207.out)
     have n4_ := Aside0.mk (blk_drew BK208.out)
     have n5_ := Aside0.mk (below_drew1 HB.out)
     clear HO_11
     clear HO_208000
     clear HO_209000
     clear BK207
     clear BK208
     clear HB
     have HO_11 := n0_
     have HO_208000 := n1_
     have HO_209000 := n2_
     have BK207 := n3_
     have BK208 := n4_
     have HB := n5_
     clear n0_ n1_ n2_ n3_ n4_ n5_
     refine start_ (n := 8) (S := fun w' => w'.cell? ⟨gb207, 0, none⟩ = some (.slice A0 l0.length c0) ∧ w'.cell? ⟨gb208, 0, none⟩ = some (.slice A1 l1.length c1)) (ds := []) #[false, false, false, false, false, false, false, false] (by kernel_rfl) rfl rfl ⟨(blk_cell BK207.out 0).trans rfl, (blk_cell BK208.out 0).trans rfl⟩ (fun hHeld => ?_); refine with_tabW matrix_Product.tab10 matrix_Product.bits10 (fun HT_ HW_ => ?_)
     generalize w20.drew = w21 at HO_11 HO_208000 HO_209000 BK207 BK208 HB hHeld ⊢
     refine pure_ (i := 4) (N := some 32) (v := ?_) (a' := ?_) #[false, false, false, false, true, false, false, false] rfl rfl (any_of HT_.out (by kernel_rfl)) (fun _ _ _ h => h) (Or.inl ⟨by rfl, ?_⟩) ?_ ?_
     rotate_left
     ·intro w'
      go_simp
      with_reducible rfl
     rotate_left
     ·simp only [Act.put, List.setIfInBounds_toArray, List.set_cons_zero, List.set_cons_succ, i64_w, i32_w]
      rfl
     refine take_ (i := 0) (N := some 28) (v := ?_) (a' := ?_) #[true, false, false, false, true, false, false, false] rfl rfl (take_ofW HT_.out HW_.out (by kernel_rfl)) (fun _ _ _ h => h) (Or.inl ⟨by rfl, ?_⟩) hHeld ?_ ?_
     rotate_left
     ·rintro w' ⟨s0, s1⟩
      (try simp only [Int.toNat_natCast] at s0 s1)
      go_simp
      with_reducible rfl
     rotate_left
     ·simp only [Act.put, List.setIfInBounds_toArray, List.set_cons_zero, List.set_cons_succ, i64_w, i32_w]
      rfl
     refine pure_ (i := 1) (N := some 29) (v := ?_) (a' := ?_) #[true, true, false, false, true, false, false, false] rfl rfl (any_of HT_.out (by kernel_rfl)) (fun _ _ _ h => h) (Or.inl ⟨by rfl, ?_⟩) ?_ ?_
     rotate_left
     ·intro w'
      go_simp
      with_reducible rfl
     rotate_left
     ·simp only [Act.put, List.setIfInBounds_toArray, List.set_cons_zero, List.set_cons_succ, i64_w, i32_w]
      rfl
     refine take_ (i := 2) (N := some 30) (v := ?_) (a' := ?_) #[true, true, true, false, true, false, false, false] rfl rfl (take_ofW HT_.out HW_.out (by kernel_rfl)) (fun _ _ _ h => h) (Or.inl ⟨by rfl, ?_⟩) hHeld ?_ ?_
     rotate_left
     ·rintro w' ⟨s0, s1⟩
      (try simp only [Int.toNat_natCast] at s0 s1)
      go_simp
      with_reducible rfl
     rotate_left
     ·simp only [Act.put, List.setIfInBounds_toArray, List.set_cons_zero, List.set_cons_succ, i64_w, i32_w]
      rfl
     refine one_ (i := 3) (N := some 31) #[true, true, true, true, true, false, false, false] rfl rfl (one_of HT_.out (by kernel_rfl)) (by decide) (fun K hK => ?_)
     refine goes_ Tryd.func36 (by kernel_rfl) rfl #[.slice A1 l1.length c1] (by rfl) rfl rfl (by (try simp only [List.map_toArray, List.map_cons, List.map_nil]); first | done | rfl | (simp only [List.length_drop, List.length_take]; rfl)) ?_
     with_reducible refine (matrix_columns.calls _ _ l1 t215 _ ?side1 ?side2 A18.out).mono ?_
     (case side1 => repeat (first | exact (Kd.V_reads' HO_209000.out).2.2 | (with_reducible refine Kd.C_alloc ?_ _) | (with_reducible refine Kd.C_drewN ?_ _) | (with_reducible refine Kd.C_drew ?_)))
     (case side2 => exact (Kd.V_reads' HO_209000.out).2.1)
     rintro e w' ⟨rfl, ⟨nd, rfl⟩⟩
     refine ⟨_, rfl, ?_⟩
     refine hK.out _ _ ⟨(blk_cell BK207.out 0).trans rfl, (blk_cell BK208.out 0).trans rfl⟩ (fun hHeld => ?_)
     clear hK K
     refine norm_ (a' := ?_) ?_ ?_
     rotate_left
     ·show Act.put _ (some 31) _ = _
      simp only [Act.put, List.setIfInBounds_toArray, List.set_cons_zero, List.set_cons_succ, i64_w, i32_w]
      rfl
     refine one_ (i := 5) (N := some 33) #[true, true, true, true, true, true, false, false] rfl rfl (one_of HT_.out (by kernel_rfl)) (by decide) (fun K hK => ?_)
     refine goes_ Tryd.func35 (by kernel_rfl) rfl #[.int .i64 (l0.length : Int), .int .i64 t215, .func (.func 47) #[] #[.pointer (some ⟨gb207, 0, none⟩), .pointer (some ⟨gb208, 0, none⟩)]] (by rfl) rfl rfl (by (try simp only [List.map_toArray, List.map_cons, List.map_nil]); first | done | rfl | (simp only [List.length_drop, List.length_take]; rfl)) ?_
     with_reducible refine (grid_47.calls gb207 gb208 (l0.length : Int) t215 A0 c0 l0 A1 c1 l1 t216 _ ?side1 ?side2 ?side3 ?side4 ?side5 ?side6 ?side7 A19.out).mono ?_
     (case side1 => first | (with_reducible exact HG.out) | (with_reducible exact HighIn.drewN HG.out _) | exact HighIn.below HG.out (by repeat (first | (with_reducible first | exact HB.out | apply below_alloc | apply pw_below_drewN | apply below_drew1 | refine below_set ?_ GE207.out | refine below_set ?_ GE208.out) | exact HB.out)) | ((repeat (first | (with_reducible exact HG.out) | (with_reducible apply HighIn.drewN) | (with_reducible apply HighIn.drew) | (with_reducible apply HighIn.alloc))); done))
     (case side2 => (with_reducible repeat (first | refine blk_drewN ?_ _ | refine blk_drew ?_ | refine blk_alloc ?_ _)); exact BK207.out)
     (case side3 => (with_reducible repeat (first | refine blk_drewN ?_ _ | refine blk_drew ?_ | refine blk_alloc ?_ _)); exact BK208.out)
     (case side4 => repeat (first | exact (Kd.V_reads' HO_208000.out).2.2 | (with_reducible refine Kd.C_alloc ?_ _) | (with_reducible refine Kd.C_drewN ?_ _) | (with_reducible refine Kd.C_drew ?_)))
     (case side5 => exact (Kd.V_reads' HO_208000.out).2.1)
     (case side6 => repeat (first | exact (Kd.V_reads' HO_209000.out).2.2 | (with_reducible refine Kd.C_alloc ?_ _) | (with_reducible refine Kd.C_drewN ?_ _) | (with_reducible refine Kd.C_drew ?_)))
     (case side7 => exact (Kd.V_reads' HO_209000.out).2.1)
     rintro e w22 ⟨v217, rfl, ho0, hb⟩
     refine ⟨_, rfl, ?_⟩
     have n0_ := Aside0.mk (Kd.N_elder' (by (with_reducible repeat (first | apply Kd.N_alloc | apply Kd.N_drewN | apply Kd.N_drew)); exact HO_11.out) (by first | exact Kd.N_base ho0 | exact Kd.S_base ho0 | exact Kd.R_base ho0) hb)
     have n1_ := Aside0.mk (Kd.V_elder' (by (with_reducible repeat (first | apply Kd.V_alloc | apply Kd.V_drewN | apply Kd.V_drew)); exact HO_208000.out) (by first | exact Kd.N_base ho0 | exact Kd.S_base ho0 | exact Kd.R_base ho0) hb)
     have n2_ := Aside0.mk (Kd.V_elder' (by (with_reducible repeat (first | apply Kd.V_alloc | apply Kd.V_drewN | apply Kd.V_drew)); exact HO_209000.out) (by first | exact Kd.N_base ho0 | exact Kd.S_base ho0 | exact Kd.R_base ho0) hb)
     have n3_ := Aside0.mk (Kd.N_lower (Kd.N_mono (ok' := fun k_ => ((P0_ k_ ∨ P1_ k_) ∨ w.heap.size ≤ k_) ∧ some k_ ≠ (.slice Ao10 y209.length co10 : Value).ownBlock ∧ k_ ≠ gb207 ∧ k_ ≠ gb208) (Kd.S_N (Kd.S_bound ho0)) (fun k_ hk_ => ⟨(.inr (Nat.le_trans (below_size (by repeat (first | (with_reducible first | exact HB.out | apply below_alloc | apply pw_below_drewN | apply below_drew1 | refine below_set ?_ GE207.out | refine below_set ?_ GE208.out) | exact HB.out))) hk_.2.1)), (Kd.fresh' (Kd.N_lt (by (with_reducible repeat (first | apply Kd.N_alloc | apply Kd.N_drewN | apply Kd.N_drew)); exact HO_11.out)) k_ hk_.2.1), (Kd.freshB (g := gb207) (o := .cells #[.slice A0 l0.length c0] 22 (0, 0)) (by (with_reducible repeat (first | refine blk_drewN ?_ _ | refine blk_drew ?_ | refine blk_alloc ?_ _)); exact BK207.out) k_ hk_.2.1), (Kd.freshB (g := gb208) (o := .cells #[.slice A1 l1.length c1] 22 (0, 0)) (by (with_reducible repeat (first | refine blk_drewN ?_ _ | refine blk_drew ?_ | refine blk_alloc ?_ _)); exact BK208.out) k_ hk_.2.1)⟩)) (below_size (by repeat (first | (with_reducible first | exact HB.out | apply below_alloc | apply pw_below_drewN | apply below_drew1 | refine below_set ?_ GE207.out | refine below_set ?_ GE208.out) | exact HB.out))))
     have n4_ := Aside0.mk (blk_below (g := gb207) (o := .cells #[.slice A0 l0.length c0] 22 (0, 0)) (by (with_reducible repeat (first | refine blk_drewN ?_ _ | refine blk_drew ?_ | refine blk_alloc ?_ _)); exact BK207.out) hb)
     have n5_ := Aside0.mk (blk_below (g := gb208) (o := .cells #[.slice A1 l1.length c1] 22 (0, 0)) (by (with_reducible repeat (first | refine blk_drewN ?_ _ | refine blk_drew ?_ | refine blk_alloc ?_ _)); exact BK208.out) hb)
     have n6_ := Aside0.mk (below_step (by repeat (first | (with_reducible first | exact HB.out | apply below_alloc | apply pw_below_drewN | apply below_drew1 | refine below_set ?_ GE207.out | refine below_set ?_ GE208.out) | exact HB.out)) hb)
     clear HO_11
     clear HO_208000
     clear HO_209000
     clear BK207
     clear BK208
     clear HB
     have HO_11 := n0_
     have HO_208000 := n1_
     have HO_209000 := n2_
     have HO218 := n3_
     have BK207 := n4_
     have BK208 := n5_
     have HB := n6_
     clear n0_ n1_ n2_ n3_ n4_ n5_ n6_
     (try clear hb)
     (try clear hb2)
     (try clear hk)
     (try clear hi)
     (try clear ho0)
     refine hK.out _ _ ⟨(blk_cell BK207.out 0).trans rfl, (blk_cell BK208.out 0).trans rfl⟩ (fun hHeld => ?_)
     clear hK K
     refine norm_ (a' := ?_) ?_ ?_
     rotate_left
     ·show Act.put _ (some 33) _ = _
      simp only [Act.put, List.setIfInBounds_toArray, List.set_cons_zero, List.set_cons_succ, i64_w, i32_w]
      rfl
     refine pure_ (i := 6) (N := some 4) (v := ?_) (a' := ?_) #[true, true, true, true, true, true, true, false] rfl rfl (any_of HT_.out (by kernel_rfl)) (fun _ _ _ h => h) (Or.inl ⟨by rfl, ?_⟩) ?_ ?_
     rotate_left
     ·intro w'
      go_simp
      with_reducible rfl
     rotate_left
     ·simp only [Act.put, List.setIfInBounds_toArray, List.set_cons_zero, List.set_cons_succ, i64_w, i32_w]
      rfl
     refine pure_ (i := 7) (N := some 5) (v := ?_) (a' := ?_) #[true, true, true, true, true, true, true, true] rfl rfl (any_of HT_.out (by kernel_rfl)) (fun _ _ _ h => h) (Or.inl ⟨by rfl, ?_⟩) ?_ ?_
     rotate_left
     ·intro w'
      go_simp
      with_reducible rfl
     rotate_left
     ·simp only [Act.put, List.setIfInBounds_toArray, List.set_cons_zero, List.set_cons_succ, i64_w, i32_w]
      rfl
     refine done_ (done_of HT_.out (by kernel_rfl)) ?_
     try go_wp2
     go_ret2
     exact ⟨_, by first | rfl | (simp [errW_none, errW_some] <;> rfl) | (simp [*, errW_none, errW_some] <;> rfl), by (with_reducible repeat (first | apply Kd.N_alloc | apply Kd.N_drewN | apply Kd.N_drew)); exact Kd.N_mono HO218.out (fun _ hk => hk.1), by repeat (first | (with_reducible first | exact HB.out | apply below_alloc | apply pw_below_drewN | apply below_drew1 | refine below_set ?_ GE207.out | refine below_set ?_ GE208.out) | exact HB.out)⟩
    ·rw [if_neg c17] at H
     have c17b0 : (t214 == (l1.length : Int)) = false := beq_eq_false_iff_ne.mpr c17
     have c17b1 : (t214 != (l1.length : Int)) = true := bne_iff_ne.mpr c17
     simp only [Option.some.injEq, Prod.mk.injEq] at H
     obtain ⟨rfl, rfl⟩ := H
     try go_wp2
     have n0_ := Aside0.mk (Kd.N_drew HO_11.out)
     have n1_ := Aside0.mk (Kd.V_drew HO_208000.out)
     have n2_ := Aside0.mk (Kd.V_drew HO_209000.out)
     have n3_ := Aside0.mk (blk_drew BK207.out)
     have n4_ := Aside0.mk (blk_drew BK208.out)
     have n5_ := Aside0.mk (below_drew1 HB.out)
     clear HO_11
     clear HO_208000
     clear HO_209000
     clear BK207
     clear BK208
     clear HB
     have HO_11 := n0_
     have HO_208000 := n1_
     have HO_209000 := n2_
     have BK207 := n3_
     have BK208 := n4_
     have HB := n5_
     clear n0_ n1_ n2_ n3_ n4_ n5_
     refine start_ (n := 5) (S := fun w' => w'.cell? ⟨gb207, 0, none⟩ = some (.slice A0 l0.length c0) ∧ w'.cell? ⟨gb208, 0, none⟩ = some (.slice A1 l1.length c1)) (ds := []) #[false, false, false, false, false] (by kernel_rfl) rfl rfl ⟨(blk_cell BK207.out 0).trans rfl, (blk_cell BK208.out 0).trans rfl⟩ (fun hHeld => ?_)
     generalize wr.drew = w23 at HO_11 HO_208000 HO_209000 BK207 BK208 HB hHeld ⊢
     refine take_ (i := 0) (N := some 23) (v := ?_) (a' := ?_) #[true, false, false, false, false] rfl rfl (by kernel_rfl) (fun _ _ _ h => h) (Or.inl ⟨by rfl, ?_⟩) hHeld ?_ ?_
     rotate_left
     ·rintro w' ⟨s0, s1⟩
      (try simp only [Int.toNat_natCast] at s0 s1)
      go_simp
      with_reducible rfl
     rotate_left
     ·simp only [Act.put, List.setIfInBounds_toArray, List.set_cons_zero, List.set_cons_succ, i64_w, i32_w]
      rfl
     refine take_ (i := 2) (N := some 25) (v := ?_) (a' := ?_) #[true, false, true, false, false] rfl rfl (by kernel_rfl) (fun _ _ _ h => h) (Or.inl ⟨by rfl, ?_⟩) hHeld ?_ ?_
     rotate_left
     ·rintro w' ⟨s0, s1⟩
      (try simp only [Int.toNat_natCast] at s0 s1)
      go_simp
      with_reducible rfl
     rotate_left
     ·simp only [Act.put, List.setIfInBounds_toArray, List.set_cons_zero, List.set_cons_succ, i64_w, i32_w]
      rfl
     refine pure_ (i := 3) (N := some 26) (v := ?_) (a' := ?_) #[true, false, true, true, false] rfl rfl (by kernel_rfl) (fun _ _ _ h => h) (Or.inl ⟨by rfl, ?_⟩) ?_ ?_
     rotate_left
     ·intro w'
      go_simp
      with_reducible rfl
     rotate_left
     ·simp only [Act.put, List.setIfInBounds_toArray, List.set_cons_zero, List.set_cons_succ, i64_w, i32_w]
      rfl
     refine one_ (i := 1) (N := some 24) #[true, true, true, true, false] rfl rfl (by kernel_rfl) (by decide) (fun K hK => ?_)
     refine goes_ Tryd.func36 (by kernel_rfl) rfl #[.slice A0 l0.length c0] (by rfl) rfl rfl (by (try simp only [List.map_toArray, List.map_cons, List.map_nil]); first | done | rfl | (simp only [List.length_drop, List.length_take]; rfl)) ?_
     with_reducible refine (matrix_columns.calls _ _ l0 t214 _ ?side1 ?side2 A16.out).mono ?_
     (case side1 => repeat (first | exact (Kd.V_reads' HO_208000.out).2.2 | (with_reducible refine Kd.C_alloc ?_ _) | (with_reducible refine Kd.C_drewN ?_ _) | (with_reducible refine Kd.C_drew ?_)))
     (case side2 => exact (Kd.V_reads' HO_208000.out).2.1)
     rintro e w' ⟨rfl, ⟨nd, rfl⟩⟩
     refine ⟨_, rfl, ?_⟩
     refine hK.out _ _ ⟨(blk_cell BK207.out 0).trans rfl, (blk_cell BK208.out 0).trans rfl⟩ (fun hHeld => ?_)
     clear hK K
     refine norm_ (a' := ?_) ?_ ?_
     rotate_left
     ·show Act.put _ (some 24) _ = _
      simp only [Act.put, List.setIfInBounds_toArray, List.set_cons_zero, List.set_cons_succ, i64_w, i32_w]
      rfl
     refine pure_ (i := 4) (N := some 27) (v := ?_) (a' := ?_) #[true, true, true, true, true] rfl rfl (by kernel_rfl) (fun _ _ _ h => h) (Or.inl ⟨by rfl, ?_⟩) ?_ ?_
     rotate_left
     ·intro w'
      go_simp
      with_reducible rfl
     rotate_left
     ·simp only [Act.put, List.setIfInBounds_toArray, List.set_cons_zero, List.set_cons_succ, i64_w, i32_w]
      rfl
     refine done_ (by kernel_rfl) ?_
     try go_wp2
     go_ret2
     exact ⟨_, by first | rfl | (simp [errW_none, errW_some] <;> rfl) | (simp [*, errW_none, errW_some] <;> rfl), by first | exact Kd.S_nil _ _ _ _ _ | exact Kd.N_nil _ _ _ _ _ | exact Kd.V_nil _ _ _ _ _ | exact Kd.Q_nil _ _ _ _ _ | exact Kd.R_nil _ _ _ _ _, by repeat (first | (with_reducible first | exact HB.out | apply below_alloc | apply pw_below_drewN | apply below_drew1 | refine below_set ?_ GE207.out | refine below_set ?_ GE208.out) | exact HB.out)⟩
mutual
def quietusref05_Check.l0 : Nat → List (List Int) → Int → Option (Int)
 | 0, _, _ => none
 | k + 1, x0, x3 => if x3 < (x0.length : Int) then (if 0 ≤ x3 then (if ((rd_L1 x0 x3).length : Int) > 48 then (some 2) else (quietusref05_Check.l0 k x0 (wrap64 (x3 + 1)))) else (none)) else (quietusref05_Check.l1 k x0 0)
def quietusref05_Check.l1 : Nat → List (List Int) → Int → Option (Int)
 | 0, _, _ => none
 | k + 1, x0, x4 => if x4 < (x0.length : Int) then (if 0 ≤ x4 then (if 0 < (x0.length : Int) then (if ((rd_L1 x0 x4).length : Int) = ((rd_L1 x0 0).length : Int) then (quietusref05_Check.l1 k x0 (wrap64 (x4 + 1))) else (some 1)) else (none)) else (none)) else (some 0)
end
def quietusref05_Check.f (k : Nat) (l0 : List (List Int)) : Option (Int) := if (l0.length : Int) > 48 then (some 2) else (quietusref05_Check.l0 k l0 0)
set_option maxHeartbeats 8000000 in
set_option maxRecDepth 100000 in
theorem quietusref05_Check.calls (k : Nat) (A0 : Option Addr) (c0 : Nat) (l0 : List (List Int)) (r : Int) (w : World) (hr0 : Kd.C (Kd.slice 5 (Kd.int .u8)) w A0 l0.length l0) (hc0 : l0.length ≤ c0) (h : quietusref05_Check.f k l0 = some r) :
  Calls Tryd.prog 12 #[.slice A0 l0.length c0] w fun e w' => e = .returned (.int .i64 r) ∧ Drawn0 w w' := by
 have HR0 := Aside0.mk hr0
 have HC0 := Aside0.mk hc0
 clear hr0 hc0
 have H : (if (l0.length : Int) > 48 then (some 2) else (quietusref05_Check.l0 k l0 0)) = some r := h
 clear h
 by_cases c2 : (l0.length : Int) > 48
 ·rw [if_pos c2] at H
  have c2b0 : decide (48 < (l0.length : Int)) = true := decide_eq_true c2
  have c2b1 : decide (48 < l0.length) = true := decide_eq_true (by omega)
  clear c2
  obtain rfl := Option.some.inj H
  go_enter Tryd.func12, Tryd.ntmps12
  go_wp2
  repeat (go_quiet (fail); try go_wp2)
  go_ret
  exact ⟨by first | rfl | (simp; done) | (simp [*]; done), by repeat (first | exact Drawn0.refl _ | apply Drawn0.step)⟩
 ·rw [if_neg c2] at H
  have c2b0 : decide (48 < (l0.length : Int)) = false := decide_eq_false c2
  have c2b1 : decide (48 < l0.length) = false := decide_eq_false (by omega)
  clear c2
  have H' := Aside0.mk H
  clear H
  go_enter Tryd.func12, Tryd.ntmps12
  go_wp2
  repeat (go_quiet (fail); try go_wp2)
  go_loopg [3] k (fun kq v3 w' => ∃ (x3_1 : Int), v3 = .int .i64 x3_1 ∧ Aside0 (quietusref05_Check.l0 kq l0 x3_1 = some r) ∧ Aside0 (kq ≤ k) ∧ Drawn0 w w')
  case atStart => exact ⟨(0), (by first | rfl | (simp; done) | (simp [*]; done)), H', ⟨Nat.le_refl _⟩, by repeat (first | exact Drawn0.refl _ | apply Drawn0.step)⟩
  case round =>
   clear H'
   try clear c1
   try clear c2
   try clear c2b0
   try clear c2b1
   try clear p2
   obtain ⟨x3_1, rfl, HA, HK1, ⟨m1, rfl⟩⟩ := hrel
   cases gk with
   | zero => exact absurd HA.out (by simp [quietusref05_Check.l0])
   | succ k1 =>
    have H := HA.out
    clear HA
    simp only [quietusref05_Check.l0] at H
    by_cases c3 : x3_1 < (l0.length : Int)
    ·rw [if_pos c3] at H
     have c3b0 : decide (x3_1 < (l0.length : Int)) = true := decide_eq_true c3
     clear c3
     by_cases c4 : 0 ≤ x3_1
     ·rw [if_pos c4] at H
      have c4b0 : decide (0 ≤ x3_1) = true := decide_eq_true c4
      clear c4
      by_cases c5 : ((rd_L1 l0 x3_1).length : Int) > 48
      ·rw [if_pos c5] at H
       have c5b0 : decide (48 < ((rd_L1 l0 x3_1).length : Int)) = true := decide_eq_true c5
       have c5b1 : decide (48 < (rd_L1 l0 x3_1).length) = true := decide_eq_true (by omega)
       clear c5
       obtain rfl := Option.some.inj H
       have p219 : 0 ≤ (x3_1 : Int) := of_decide_eq_true (by first | (with_reducible assumption) | assumption)
       have q219 : x3_1 < (l0.length : Int) := of_decide_eq_true (by first | (with_reducible assumption) | assumption)
       obtain ⟨ad219, A219_0, c219_0, e219, hx219_0, hl219_0, hi219_0⟩ := at_L1 HR0.out x3_1 p219 q219
       cases e219
       have HR219_0 := Aside0.mk hi219_0
       have HC219_0 := Aside0.mk hl219_0
       clear hi219_0 hl219_0
       replace p219 := eq_true p219
       replace q219 := eq_true q219
       go_wp2
       repeat (go_quiet (fail); try go_wp2)
       go_ret
       exact ⟨by first | rfl | (simp; done) | (simp [*]; done), by repeat (first | exact Drawn0.refl _ | apply Drawn0.step)⟩
      ·rw [if_neg c5] at H
       have c5b0 : decide (48 < ((rd_L1 l0 x3_1).length : Int)) = false := decide_eq_false c5
       have c5b1 : decide (48 < (rd_L1 l0 x3_1).length) = false := decide_eq_false (by omega)
       clear c5
       have H' := Aside0.mk H
       clear H
       have p219 : 0 ≤ (x3_1 : Int) := of_decide_eq_true (by first | (with_reducible assumption) | assumption)
       have q219 : x3_1 < (l0.length : Int) := of_decide_eq_true (by first | (with_reducible assumption) | assumption)
       obtain ⟨ad219, A219_0, c219_0, e219, hx219_0, hl219_0, hi219_0⟩ := at_L1 HR0.out x3_1 p219 q219
       cases e219
       have HR219_0 := Aside0.mk hi219_0
       have HC219_0 := Aside0.mk hl219_0
       clear hi219_0 hl219_0
       replace p219 := eq_true p219
       replace q219 := eq_true q219
       go_wp2
       repeat (go_quiet (fail); try go_wp2)
       go_roundg k1
       case measure => have := HK1.out; omega
       case rel => exact ⟨(wrap64 (x3_1 + 1)), (by first | rfl | (simp; done) | (simp [*]; done)), H', ⟨by have := HK1.out; omega⟩, by repeat (first | exact Drawn0.refl _ | apply Drawn0.step)⟩
     ·rw [if_neg c4] at H
      exact absurd H (by simp)
    ·rw [if_neg c3] at H
     have c3b0 : decide (x3_1 < (l0.length : Int)) = false := decide_eq_false c3
     clear c3
     have H' := Aside0.mk H
     clear H
     go_wp2
     repeat (go_quiet (fail); try go_wp2)
     go_loopg [4] k1 (fun kq v4 w' => ∃ (x4_2 : Int), v4 = .int .i64 x4_2 ∧ Aside0 (quietusref05_Check.l1 kq l0 x4_2 = some r) ∧ Aside0 (kq ≤ k1) ∧ Drawn0 w w')
     case atStart => exact ⟨(0), (by first | rfl | (simp; done) | (simp [*]; done)), H', ⟨Nat.le_refl _⟩, by repeat (first | exact Drawn0.refl _ | apply Drawn0.step)⟩
     case round =>
      clear H'
      try clear c1
      try clear c2
      try clear c2b0
      try clear c2b1
      try clear p2
      try clear q2
      try clear hx2
      try clear c3
      try clear c3b0
      try clear c4
      try clear c4b0
      try clear c5
      try clear c5b0
      try clear c5b1
      try clear hx219_0
      try clear p2
      try clear p219
      try clear q219
      obtain ⟨x4_2, rfl, HA, HK2, ⟨m2, rfl⟩⟩ := hrel
      cases gk with
      | zero => exact absurd HA.out (by simp [quietusref05_Check.l1])
      | succ k2 =>
       have H := HA.out
       clear HA
       simp only [quietusref05_Check.l1] at H
       by_cases c6 : x4_2 < (l0.length : Int)
       ·rw [if_pos c6] at H
        have c6b0 : decide (x4_2 < (l0.length : Int)) = true := decide_eq_true c6
        clear c6
        by_cases c7 : 0 ≤ x4_2
        ·rw [if_pos c7] at H
         have c7b0 : decide (0 ≤ x4_2) = true := decide_eq_true c7
         clear c7
         by_cases c8 : 0 < (l0.length : Int)
         ·rw [if_pos c8] at H
          have c8b0 : decide (0 < (l0.length : Int)) = true := decide_eq_true c8
          have c8b1 : decide (0 < l0.length) = true := decide_eq_true (by omega)
          clear c8
          by_cases c9 : ((rd_L1 l0 x4_2).length : Int) = ((rd_L1 l0 0).length : Int)
          ·rw [if_pos c9] at H
           have c9b0 : (((rd_L1 l0 x4_2).length : Int) == ((rd_L1 l0 0).length : Int)) = true := beq_iff_eq.mpr c9
           have c9b1 : (((rd_L1 l0 x4_2).length : Int) != ((rd_L1 l0 0).length : Int)) = false := bne_eq_false_iff_eq.mpr c9
           have c9b2 : ((rd_L1 l0 x4_2).length == (rd_L1 l0 0).length) = true := by first | simpa using c9 | (simp at c9 ⊢; omega)
           clear c9
           have H' := Aside0.mk H
           clear H
           have p220 : 0 ≤ (x4_2 : Int) := of_decide_eq_true (by first | (with_reducible assumption) | assumption)
           have q220 : x4_2 < (l0.length : Int) := of_decide_eq_true (by first | (with_reducible assumption) | assumption)
           obtain ⟨ad220, A220_0, c220_0, e220, hx220_0, hl220_0, hi220_0⟩ := at_L1 HR0.out x4_2 p220 q220
           cases e220
           have HR220_0 := Aside0.mk hi220_0
           have HC220_0 := Aside0.mk hl220_0
           clear hi220_0 hl220_0
           replace p220 := eq_true p220
           replace q220 := eq_true q220
           have p221 : 0 ≤ (0 : Int) := (by omega)
           have q221 : 0 < (l0.length : Int) := of_decide_eq_true (by first | (with_reducible assumption) | assumption)
           obtain ⟨ad221, A221_0, c221_0, e221, hx221_0, hl221_0, hi221_0⟩ := at_L1 HR0.out 0 p221 q221
           obtain rfl : ad220 = ad221 := (by injection e221)
           have qi221 : (0 < l0.length) = True := eq_true (by omega)
           (try rw [show ((0 : Int)).toNat = 0 from rfl] at hx221_0)
           (try rw [Addr.add_zero'] at hx221_0)
           have HR221_0 := Aside0.mk hi221_0
           have HC221_0 := Aside0.mk hl221_0
           clear hi221_0 hl221_0
           replace p221 := eq_true p221
           replace q221 := eq_true q221
           go_wp2
           repeat (go_quiet (fail); try go_wp2)
           go_roundg k2
           case measure => have := HK1.out; have := HK2.out; omega
           case rel => exact ⟨(wrap64 (x4_2 + 1)), (by first | rfl | (simp; done) | (simp [*]; done)), H', ⟨by have := HK1.out; have := HK2.out; omega⟩, by repeat (first | exact Drawn0.refl _ | apply Drawn0.step)⟩
          ·rw [if_neg c9] at H
           have c9b0 : (((rd_L1 l0 x4_2).length : Int) == ((rd_L1 l0 0).length : Int)) = false := beq_eq_false_iff_ne.mpr c9
           have c9b1 : (((rd_L1 l0 x4_2).length : Int) != ((rd_L1 l0 0).length : Int)) = true := bne_iff_ne.mpr c9
           have c9b2 : ((rd_L1 l0 x4_2).length == (rd_L1 l0 0).length) = false := by first | simpa using c9 | (simp at c9 ⊢; omega)
           obtain rfl := Option.some.inj H
           have p220 : 0 ≤ (x4_2 : Int) := of_decide_eq_true (by first | (with_reducible assumption) | assumption)
           have q220 : x4_2 < (l0.length : Int) := of_decide_eq_true (by first | (with_reducible assumption) | assumption)
           obtain ⟨ad220, A220_0, c220_0, e220, hx220_0, hl220_0, hi220_0⟩ := at_L1 HR0.out x4_2 p220 q220
           cases e220
           have HR220_0 := Aside0.mk hi220_0
           have HC220_0 := Aside0.mk hl220_0
           clear hi220_0 hl220_0
           replace p220 := eq_true p220
           replace q220 := eq_true q220
           have p221 : 0 ≤ (0 : Int) := (by omega)
           have q221 : 0 < (l0.length : Int) := of_decide_eq_true (by first | (with_reducible assumption) | assumption)
           obtain ⟨ad221, A221_0, c221_0, e221, hx221_0, hl221_0, hi221_0⟩ := at_L1 HR0.out 0 p221 q221
           obtain rfl : ad220 = ad221 := (by injection e221)
           have qi221 : (0 < l0.length) = True := eq_true (by omega)
           (try rw [show ((0 : Int)).toNat = 0 from rfl] at hx221_0)
           (try rw [Addr.add_zero'] at hx221_0)
           have HR221_0 := Aside0.mk hi221_0
           have HC221_0 := Aside0.mk hl221_0
           clear hi221_0 hl221_0
           replace p221 := eq_true p221
           replace q221 := eq_true q221
           go_wp2
           repeat (go_quiet (fail); try go_wp2)
           go_ret
           exact ⟨by first | rfl | (simp; done) | (simp [*]; done), by repeat (first | exact Drawn0.refl _ | apply Drawn0.step)⟩
         ·rw [if_neg c8] at H
          exact absurd H (by simp)
        ·rw [if_neg c7] at H
         exact absurd H (by simp)
       ·rw [if_neg c6] at H
        have c6b0 : decide (x4_2 < (l0.length : Int)) = false := decide_eq_false c6
        clear c6
        obtain rfl := Option.some.inj H
        go_wp2
        repeat (go_quiet (fail); try go_wp2)
        go_ret
        exact ⟨by first | rfl | (simp; done) | (simp [*]; done), by repeat (first | exact Drawn0.refl _ | apply Drawn0.step)⟩
def quietusref05_Columns.f (l0 : List (List Int)) : Option (Int) := if (l0.length : Int) = 0 then (some 0) else (if 0 < (l0.length : Int) then (some ((rd_L1 l0 0).length : Int)) else (none))
set_option maxHeartbeats 8000000 in
set_option maxRecDepth 100000 in
theorem quietusref05_Columns.calls (A0 : Option Addr) (c0 : Nat) (l0 : List (List Int)) (r : Int) (w : World) (hr0 : Kd.C (Kd.slice 5 (Kd.int .u8)) w A0 l0.length l0) (hc0 : l0.length ≤ c0) (h : quietusref05_Columns.f l0 = some r) :
  Calls Tryd.prog 30 #[.slice A0 l0.length c0] w fun e w' => e = .returned (.int .i64 r) ∧ Drawn0 w w' := by
 have HR0 := Aside0.mk hr0
 have HC0 := Aside0.mk hc0
 clear hr0 hc0
 have H : (if (l0.length : Int) = 0 then (some 0) else (if 0 < (l0.length : Int) then (some ((rd_L1 l0 0).length : Int)) else (none))) = some r := h
 clear h
 by_cases c2 : (l0.length : Int) = 0
 ·rw [if_pos c2] at H
  have c2b0 : ((l0.length : Int) == 0) = true := beq_iff_eq.mpr c2
  have c2b1 : ((l0.length : Int) != 0) = false := bne_eq_false_iff_eq.mpr c2
  clear c2
  obtain rfl := Option.some.inj H
  go_enter Tryd.func30, Tryd.ntmps30
  go_wp2
  go_ret
  exact ⟨by first | rfl | (simp; done) | (simp [*]; done), by repeat (first | exact Drawn0.refl _ | apply Drawn0.step)⟩
 ·rw [if_neg c2] at H
  have c2b0 : ((l0.length : Int) == 0) = false := beq_eq_false_iff_ne.mpr c2
  have c2b1 : ((l0.length : Int) != 0) = true := bne_iff_ne.mpr c2
  have c2b2 : ¬ (l0 = []) := fun h_ => c2 (by rw [h_]; rfl)
  by_cases c3 : 0 < (l0.length : Int)
  ·rw [if_pos c3] at H
   have c3b0 : decide (0 < (l0.length : Int)) = true := decide_eq_true c3
   have c3b1 : decide (0 < l0.length) = true := decide_eq_true (by omega)
   clear c3
   obtain rfl := Option.some.inj H
   have p222 : 0 ≤ (0 : Int) := (by omega)
   have q222 : 0 < (l0.length : Int) := of_decide_eq_true (by first | (with_reducible assumption) | assumption)
   obtain ⟨ad222, A222_0, c222_0, e222, hx222_0, hl222_0, hi222_0⟩ := at_L1 HR0.out 0 p222 q222
   cases e222
   have qi222 : (0 < l0.length) = True := eq_true (by omega)
   (try rw [show ((0 : Int)).toNat = 0 from rfl] at hx222_0)
   (try rw [Addr.add_zero'] at hx222_0)
   have HR222_0 := Aside0.mk hi222_0
   have HC222_0 := Aside0.mk hl222_0
   clear hi222_0 hl222_0
   replace p222 := eq_true p222
   replace q222 := eq_true q222
   go_enter Tryd.func30, Tryd.ntmps30
   go_wp2
   go_ret
   exact ⟨by first | rfl | (simp; done) | (simp [*]; done), by repeat (first | exact Drawn0.refl _ | apply Drawn0.step)⟩
  ·rw [if_neg c3] at H
   exact absurd H (by simp)
end Go.Proofs.YtijebgceopddmaaDoor.Pa
end
section
namespace Go.Proofs.YtijebgceopddmaaDoor.Pa
open Go.RowKit Go.Proofs.YtijebgceopddmaaDoor.Gf Go.Proofs.YtijebgceopddmaaDoor.Pr Go.Proofs.YtijebgceopddmaaDoorW.PrintWords Go.Proofs.YtijebgceopddmaaDoorW.PrintLast Go.Proofs.YtijebgceopddmaaDoorW.PrintMore
attribute [local go_sem] max2_int min2_int max_two min_two max_three min_three max_four min_four   -- for this text's walks alone
set_option linter.unusedVariables false
set_option linter.unusedSimpArgs false
def quietusref04_Mul.l0 : Nat → Int → Int → Int → Option (Int)
 | 0, _, _, _ => none
 | k + 1, x5, x6, x7 => if x6 > 0 then (if (Int.tmod x6 2) = 1 then (if (wrap64 (2 * x5)) > 255 then (quietusref04_Mul.l0 k (Go.bits .xor .i64 (wrap64 (2 * x5)) 285) (wrap64 (Int.tdiv x6 2)) (Go.bits .xor .i64 x7 x5)) else (quietusref04_Mul.l0 k (wrap64 (2 * x5)) (wrap64 (Int.tdiv x6 2)) (Go.bits .xor .i64 x7 x5))) else (if (wrap64 (2 * x5)) > 255 then (quietusref04_Mul.l0 k (Go.bits .xor .i64 (wrap64 (2 * x5)) 285) (wrap64 (Int.tdiv x6 2)) x7) else (quietusref04_Mul.l0 k (wrap64 (2 * x5)) (wrap64 (Int.tdiv x6 2)) x7))) else (some ((x7) % 256))
def quietusref04_Mul.f (k : Nat) (a0 : Int) (a1 : Int) : Option (Int) := quietusref04_Mul.l0 k (wrap64 (a0)) (wrap64 (a1)) 0
set_option maxHeartbeats 8000000 in
set_option maxRecDepth 100000 in
theorem quietusref04_Mul.calls (k : Nat) (a0 : Int) (a1 : Int) (r : Int) (w : World) (h : quietusref04_Mul.f k a0 a1 = some r) :
  Calls Tryd.prog 49 #[.int .u8 a0, .int .u8 a1] w fun e w' => e = .returned (.int .u8 r) ∧ Drawn0 w w' := by
 have H : (quietusref04_Mul.l0 k (wrap64 (a0)) (wrap64 (a1)) 0) = some r := h
 clear h
 have H' := Aside0.mk H
 clear H
 go_enter Tryd.func49, Tryd.ntmps49
 go_wp2
 go_loopg [5, 6, 7] k (fun kq v5 v6 v7 w' => ∃ (x5_1 : Int) (x6_1 : Int) (x7_1 : Int), v5 = .int .i64 x5_1 ∧ v6 = .int .i64 x6_1 ∧ v7 = .int .i64 x7_1 ∧ Aside0 (quietusref04_Mul.l0 kq x5_1 x6_1 x7_1 = some r) ∧ Aside0 (kq ≤ k) ∧ Drawn0 w w')
 case atStart => exact ⟨(wrap64 (a0)), (wrap64 (a1)), (0), (by first | rfl | (simp; done) | (simp [*]; done)), (by first | rfl | (simp; done) | (simp [*]; done)), (by first | rfl | (simp; done) | (simp [*]; done)), H', ⟨Nat.le_refl _⟩, by repeat (first | exact Drawn0.refl _ | apply Drawn0.step)⟩
 case round =>
  clear H'
  try clear p2
  obtain ⟨x5_1, x6_1, x7_1, rfl, rfl, rfl, HA, HK1, ⟨m1, rfl⟩⟩ := hrel
  cases gk with
  | zero => exact absurd HA.out (by simp [quietusref04_Mul.l0])
  | succ k1 =>
   have H := HA.out
   clear HA
   simp only [quietusref04_Mul.l0] at H
   by_cases c3 : x6_1 > 0
   ·rw [if_pos c3] at H
    have c3b0 : decide (0 < x6_1) = true := decide_eq_true c3
    clear c3
    by_cases c4 : (Int.tmod x6_1 2) = 1
    ·rw [if_pos c4] at H
     have c4b0 : ((Int.tmod x6_1 2) == 1) = true := beq_iff_eq.mpr c4
     have c4b1 : ((Int.tmod x6_1 2) != 1) = false := bne_eq_false_iff_eq.mpr c4
     clear c4
     by_cases c5 : (wrap64 (2 * x5_1)) > 255
     ·rw [if_pos c5] at H
      have c5b0 : decide (255 < (wrap64 (2 * x5_1))) = true := decide_eq_true c5
      clear c5
      have H' := Aside0.mk H
      clear H
      go_wp2
      go_roundg k1
      case measure => have := HK1.out; omega
      case rel => exact ⟨(Go.bits .xor .i64 (wrap64 (2 * x5_1)) 285), (wrap64 (Int.tdiv x6_1 2)), (Go.bits .xor .i64 x7_1 x5_1), (by first | rfl | (simp; done) | (simp [*]; done)), (by first | rfl | (simp; done) | (simp [*]; done)), (by first | rfl | (simp; done) | (simp [*]; done)), H', ⟨by have := HK1.out; omega⟩, by repeat (first | exact Drawn0.refl _ | apply Drawn0.step)⟩
     ·rw [if_neg c5] at H
      have c5b0 : decide (255 < (wrap64 (2 * x5_1))) = false := decide_eq_false c5
      clear c5
      have H' := Aside0.mk H
      clear H
      go_wp2
      go_roundg k1
      case measure => have := HK1.out; omega
      case rel => exact ⟨(wrap64 (2 * x5_1)), (wrap64 (Int.tdiv x6_1 2)), (Go.bits .xor .i64 x7_1 x5_1), (by first | rfl | (simp; done) | (simp [*]; done)), (by first | rfl | (simp; done) | (simp [*]; done)), (by first | rfl | (simp; done) | (simp [*]; done)), H', ⟨by have := HK1.out; omega⟩, by repeat (first | exact Drawn0.refl _ | apply Drawn0.step)⟩
    ·rw [if_neg c4] at H
     have c4b0 : ((Int.tmod x6_1 2) == 1) = false := beq_eq_false_iff_ne.mpr c4
     have c4b1 : ((Int.tmod x6_1 2) != 1) = true := bne_iff_ne.mpr c4
     by_cases c6 : (wrap64 (2 * x5_1)) > 255
     ·rw [if_pos c6] at H
      have c6b0 : decide (255 < (wrap64 (2 * x5_1))) = true := decide_eq_true c6
      clear c6
      have H' := Aside0.mk H
      clear H
      go_wp2
      go_roundg k1
      case measure => have := HK1.out; omega
      case rel => exact ⟨(Go.bits .xor .i64 (wrap64 (2 * x5_1)) 285), (wrap64 (Int.tdiv x6_1 2)), (x7_1), (by first | rfl | (simp; done) | (simp [*]; done)), (by first | rfl | (simp; done) | (simp [*]; done)), (by first | rfl | (simp; done) | (simp [*]; done)), H', ⟨by have := HK1.out; omega⟩, by repeat (first | exact Drawn0.refl _ | apply Drawn0.step)⟩
     ·rw [if_neg c6] at H
      have c6b0 : decide (255 < (wrap64 (2 * x5_1))) = false := decide_eq_false c6
      clear c6
      have H' := Aside0.mk H
      clear H
      go_wp2
      go_roundg k1
      case measure => have := HK1.out; omega
      case rel => exact ⟨(wrap64 (2 * x5_1)), (wrap64 (Int.tdiv x6_1 2)), (x7_1), (by first | rfl | (simp; done) | (simp [*]; done)), (by first | rfl | (simp; done) | (simp [*]; done)), (by first | rfl | (simp; done) | (simp [*]; done)), H', ⟨by have := HK1.out; omega⟩, by repeat (first | exact Drawn0.refl _ | apply Drawn0.step)⟩
   ·rw [if_neg c3] at H
    have c3b0 : decide (0 < x6_1) = false := decide_eq_false c3
    clear c3
    obtain rfl := Option.some.inj H
    go_wp2
    go_ret
    exact ⟨by first | rfl | (simp; done) | (simp [*]; done), by repeat (first | exact Drawn0.refl _ | apply Drawn0.step)⟩
def quietusref05_Sum.l0 : Nat → List Int → Int → List Int → List Int → Int → Option (List Int)
 | 0, _, _, _, _, _ => none
 | k + 1, x0, x1, x2, x7, x8 => if x8 < (x0.length : Int) then (if 0 ≤ x8 then (if x8 < (x2.length : Int) then ((quietusref04_Mul.f k x1 (rd x2 x8)).bind fun t224 => (if x7.length < 140737488355328 then (quietusref05_Sum.l0 k x0 x1 x2 (x7 ++ [Go.bits .xor .u8 (rd x0 x8) t224]) (wrap64 (x8 + 1))) else (none))) else (none)) else (none)) else (some x7)
def quietusref05_Sum.f (k : Nat) (l0 : List Int) (a1 : Int) (l2 : List Int) : Option (List Int) := quietusref05_Sum.l0 k l0 a1 l2 ([] : List Int) 0
set_option maxHeartbeats 8000000 in
set_option maxRecDepth 100000 in
theorem quietusref05_Sum.calls (k : Nat) (A0 : Option Addr) (c0 : Nat) (l0 : List Int) (a1 : Int) (A2 : Option Addr) (c2 : Nat) (l2 : List Int) (r : List Int) (w : World) (hr0 : Kd.C (Kd.int .u8) w A0 l0.length l0) (hc0 : l0.length ≤ c0) (hr2 : Kd.C (Kd.int .u8) w A2 l2.length l2) (hc2 : l2.length ≤ c2) (h : quietusref05_Sum.f k l0 a1 l2 = some r) :
  Calls Tryd.prog 32 #[.slice A0 l0.length c0, .int .u8 a1, .slice A2 l2.length c2] w fun e w' => ∃ v0_ : Value, e = .returned (v0_) ∧ Kd.R (Kd.int .u8) 5 w' w.heap.size (fun _ => True) v0_ r ∧ Below w.heap.size w w' := by
 have HR0 := Aside0.mk hr0
 have HC0 := Aside0.mk hc0
 clear hr0 hc0
 have HR2 := Aside0.mk hr2
 have HC2 := Aside0.mk hc2
 clear hr2 hc2
 have HB := Aside0.mk (Below.refl w.heap.size w)
 have H : (quietusref05_Sum.l0 k l0 a1 l2 ([] : List Int) 0) = some r := h
 clear h
 have H' := Aside0.mk H
 clear H
 go_enter Tryd.func32, Tryd.ntmps32
 go_wp2
 go_loopg [7, 8] k (fun kq v7 v8 w' => ∃ (x7_1 : List Int) (x8_1 : Int), v8 = .int .i64 x8_1 ∧ Aside0 (quietusref05_Sum.l0 kq l0 a1 l2 x7_1 x8_1 = some r) ∧ Aside0 (kq ≤ k) ∧ Aside0 (Kd.R (Kd.int .u8) 5 w' w.heap.size (fun _ => True) v7 x7_1) ∧ Aside0 (Below w.heap.size w w'))
 case atStart => exact ⟨(([] : List Int)), (0), (by first | rfl | (simp; done) | (simp [*]; done)), H', ⟨Nat.le_refl _⟩, ⟨by first | exact Kd.R_nil _ _ _ _ _ | exact Kd.N_nil _ _ _ _ _ | exact Kd.V_nil _ _ _ _ _ | exact Kd.Q_nil _ _ _ _ _ | exact Kd.S_nil _ _ _ _ _⟩, ⟨by repeat (first | (with_reducible first | exact HB.out | apply below_alloc | apply pw_below_drewN | apply below_drew1) | exact HB.out)⟩⟩
 case round =>
  clear H'
  try clear c2
  try clear p2
  try clear c3
  obtain ⟨x7_1, x8_1, rfl, HA, HK1, HO_7, HB⟩ := hrel
  cases gk with
  | zero => exact absurd HA.out (by simp [quietusref05_Sum.l0])
  | succ k1 =>
   have H := HA.out
   clear HA
   simp only [quietusref05_Sum.l0] at H
   by_cases c4 : x8_1 < (l0.length : Int)
   ·rw [if_pos c4] at H
    have c4b0 : decide (x8_1 < (l0.length : Int)) = true := decide_eq_true c4
    clear c4
    by_cases c5 : 0 ≤ x8_1
    ·rw [if_pos c5] at H
     have c5b0 : decide (0 ≤ x8_1) = true := decide_eq_true c5
     clear c5
     by_cases c6 : x8_1 < (l2.length : Int)
     ·rw [if_pos c6] at H
      have c6b0 : decide (x8_1 < (l2.length : Int)) = true := decide_eq_true c6
      clear c6
      replace H := Option.bind_eq_some_iff.mp H
      obtain ⟨t224, A70, H⟩ := H
      replace H : (if x7_1.length < 140737488355328 then (quietusref05_Sum.l0 k1 l0 a1 l2 (x7_1 ++ [Go.bits .xor .u8 (rd l0 x8_1) t224]) (wrap64 (x8_1 + 1))) else (none)) = some r := H
      have A7 := Aside0.mk A70
      clear A70
      by_cases c8 : x7_1.length < 140737488355328
      ·rw [if_pos c8] at H
       have LMc8 := Aside0.mk c8
       clear c8
       obtain ⟨y226, hy226⟩ : ∃ y_ : List Int, y_ = (x7_1 ++ [Go.bits .xor .u8 (rd l0 x8_1) t224]) := ⟨_, rfl⟩
       replace H : (quietusref05_Sum.l0 k1 l0 a1 l2 y226 (wrap64 (x8_1 + 1))) = some r := by first | (rw [hy226]; with_reducible exact H) | (have H2_ := (Option.bind_some _ _).symm.trans H; rw [hy226]; with_reducible exact H2_) | (have H2_ := (Option.bind_some _ _).symm.trans H; with_reducible exact H2_) | with_reducible exact H | (rw [hy226]; exact H) | exact H
       have Ny226 := Aside0.mk hy226
       clear hy226
       have H' := Aside0.mk H
       clear H
       have p223 : 0 ≤ (x8_1 : Int) := of_decide_eq_true (by first | (with_reducible assumption) | assumption)
       have q223 : x8_1 < (l2.length : Int) := of_decide_eq_true (by first | (with_reducible assumption) | assumption)
       obtain ⟨ad223, e223, hx223_0⟩ := Kd.at_int HR2.out x8_1 p223 q223
       cases e223
       replace hx223_0 := (HB.out.cell (World.block_lt_of_cell? w _ hx223_0)).trans hx223_0
       replace p223 := eq_true p223
       replace q223 := eq_true q223
       go_wp2_with (first | ((with_reducible refine gate_callee (f := 49) rfl ?_); refine goesL_ (some 21) rfl rfl Tryd.func49 (by kernel_rfl) rfl #[.int .u8 a1, .int .u8 (rd l2 x8_1)] rfl (by (try simp only [List.map_toArray, List.map_cons, List.map_nil]); first | done | rfl | (simp only [List.length_drop, List.length_take]; rfl)) ?_; (with_reducible refine (quietusref04_Mul.calls k1 a1 (rd l2 x8_1) t224 _ A7.out).mono ?_); rintro e w' ⟨rfl, ⟨nd, rfl⟩⟩; refine ⟨_, rfl, ?_⟩; have p225 : 0 ≤ (x8_1 : Int) := of_decide_eq_true (by first | (with_reducible assumption) | assumption); have q225 : x8_1 < (l0.length : Int) := of_decide_eq_true (by first | (with_reducible assumption) | assumption); obtain ⟨ad225, e225, hx225_0⟩ := Kd.at_int HR0.out x8_1 p225 q225; cases e225; replace hx225_0 := (HB.out.cell (World.block_lt_of_cell? w _ hx225_0)).trans hx225_0; replace p225 := eq_true p225; replace q225 := eq_true q225) | ((with_reducible refine gate_builtin (b := .append) (xs := #[.tmp 22, .tmp 29]) rfl ?_); at_builtin; refine Kd.R_append (Kd.int .u8) (w0 := w) w.heap.size rfl (.tmp 22) (.tmp 29) 43 5 (.int .u8 0) 1 rfl Tryd.underlying43 info5 rfl (by decide) (by omega) u7 x7_1 (Go.bits .xor .u8 (rd l0 x8_1) t224) [.int .u8 (Go.bits .xor .u8 (rd l0 x8_1) t224)] (fun _ => True) (fun _ => False) rfl rfl ?aP (fun _ hk => hk.elim) ?aF ?aO ?aB ?aS ?aL ?_; (case aP => exact rfl); (case aB => exact (by repeat (first | (with_reducible first | exact HB.out | apply below_alloc | apply pw_below_drewN | apply below_drew1) | exact HB.out))); (case aF => exact (fun _ _ => trivial)); (case aO => exact (by (with_reducible repeat (first | apply Kd.R_alloc | apply Kd.R_drewN | apply Kd.R_drew)); exact HO_7.out)); (case aS => exact (below_size (by repeat (first | (with_reducible first | exact HB.out | apply below_alloc | apply pw_below_drewN | apply below_drew1) | exact HB.out)))); (case aL => have := LMc8.out; omega); intro v227 w9 ho hb hg hat; rw [← Ny226.out] at ho; have n0_ := Aside0.mk (hb); have n1_ := Aside0.mk (ho); clear HB; clear HO_7; have HB := n0_; have HO228 := n1_; clear n0_ n1_; clear ho hb hg hat))
       go_roundg k1
       case measure => have := HK1.out; omega
       case rel => exact ⟨(y226), (wrap64 (x8_1 + 1)), (by first | rfl | (simp; done) | (simp [*]; done)), H', ⟨by have := HK1.out; omega⟩, ⟨by (with_reducible repeat (first | apply Kd.R_alloc | apply Kd.R_drewN | apply Kd.R_drew)); exact HO228.out⟩, ⟨by repeat (first | (with_reducible first | exact HB.out | apply below_alloc | apply pw_below_drewN | apply below_drew1) | exact HB.out)⟩⟩
      ·rw [if_neg c8] at H
       exact absurd H (by simp)
     ·rw [if_neg c6] at H
      exact absurd H (by simp)
    ·rw [if_neg c5] at H
     exact absurd H (by simp)
   ·rw [if_neg c4] at H
    have c4b0 : decide (x8_1 < (l0.length : Int)) = false := decide_eq_false c4
    clear c4
    obtain rfl := Option.some.inj H
    go_wp2
    go_ret
    exact ⟨_, by first | rfl | (simp [errW_none, errW_some] <;> rfl) | (simp [*, errW_none, errW_some] <;> rfl), by (with_reducible repeat (first | apply Kd.R_alloc | apply Kd.R_drewN | apply Kd.R_drew)); exact HO_7.out, by repeat (first | (with_reducible first | exact HB.out | apply below_alloc | apply pw_below_drewN | apply below_drew1) | exact HB.out)⟩
def quietusref05_Combine.l0 : Nat → List Int → List (List Int) → List Int → Int → Option (List Int)
 | 0, _, _, _, _ => none
 | k + 1, x0, x1, x7, x8 => if x8 < (x1.length : Int) then (if 0 ≤ x8 then (if x8 < (x0.length : Int) then ((quietusref05_Sum.f k x7 (rd x0 x8) (rd_L1 x1 x8)).bind fun t234 => (quietusref05_Combine.l0 k x0 x1 t234 (wrap64 (x8 + 1)))) else (none)) else (none)) else (some x7)
def quietusref05_Combine.f (k : Nat) (l0 : List Int) (l1 : List (List Int)) (a2 : Int) : Option (List Int) := if 0 ≤ a2 then (if (a2 : Int).toNat ≤ 281474976710656 then (quietusref05_Combine.l0 k l0 l1 (List.replicate (a2 : Int).toNat 0) 0) else (none)) else (none)
def quietusref05_Combine.T5 : Bool × List (List Nat × List Nat) := (true, [([], []), ([], []), ([], []), ([1, 2], [1, 2]), ([3], [3]), ([], []), ([], []), ([5, 6], [5, 6]), ([7], [7]), ([0, 4, 8], [0, 4, 8]), ([9, 9, 0, 1, 2, 3, 4, 5, 6, 7, 8, 9], [0, 9])])
def quietusref05_Combine.B5 : List Nat := [0, 0, 0, 6, 14, 0, 0, 96, 224, 511, 1023]
theorem quietusref05_Combine.tab5 : rtab .any (opsOf Tryd.f34 5) = quietusref05_Combine.T5 := by kernel_rfl
theorem quietusref05_Combine.bits5 : waitsOk quietusref05_Combine.T5.2 quietusref05_Combine.B5 = true := by kernel_rfl
set_option maxHeartbeats 8000000 in
set_option maxRecDepth 100000 in
theorem quietusref05_Combine.calls (k : Nat) (A0 : Option Addr) (c0 : Nat) (l0 : List Int) (A1 : Option Addr) (c1 : Nat) (l1 : List (List Int)) (a2 : Int) (r : List Int) (w : World) (hr0 : Kd.C (Kd.int .u8) w A0 l0.length l0) (hc0 : l0.length ≤ c0) (hr1 : Kd.C (Kd.slice 5 (Kd.int .u8)) w A1 l1.length l1) (hc1 : l1.length ≤ c1) (h : quietusref05_Combine.f k l0 l1 a2 = some r) :
  Calls Tryd.prog 34 #[.slice A0 l0.length c0, .slice A1 l1.length c1, .int .i64 a2] w fun e w' => ∃ v0_ : Value, e = .returned (v0_) ∧ Kd.R (Kd.int .u8) 5 w' w.heap.size (fun _ => True) v0_ r ∧ Below w.heap.size w w' := by
 have HR0 := Aside0.mk hr0
 have HC0 := Aside0.mk hc0
 clear hr0 hc0
 have HR1 := Aside0.mk hr1
 have HC1 := Aside0.mk hc1
 clear hr1 hc1
 have HB := Aside0.mk (Below.refl w.heap.size w)
 have H : (if 0 ≤ a2 then (if (a2 : Int).toNat ≤ 281474976710656 then (quietusref05_Combine.l0 k l0 l1 (List.replicate (a2 : Int).toNat 0) 0) else (none)) else (none)) = some r := h
 clear h
 by_cases c4 : 0 ≤ a2
 ·rw [if_pos c4] at H
  have c4b0 := eq_true c4
  have c4b1 : decide (0 ≤ a2) = true := decide_eq_true c4
  clear c4
  by_cases c5 : (a2 : Int).toNat ≤ 281474976710656
  ·rw [if_pos c5] at H
   have c5b0 := eq_true c5
   have c5b1 : decide ((a2 : Int).toNat ≤ 281474976710656) = true := decide_eq_true c5
   clear c5
   obtain ⟨y229, hy229⟩ : ∃ y_ : List Int, y_ = (List.replicate (a2 : Int).toNat 0) := ⟨_, rfl⟩
   replace H : (quietusref05_Combine.l0 k l0 l1 y229 0) = some r := by first | (rw [hy229]; with_reducible exact H) | (have H2_ := (Option.bind_some _ _).symm.trans H; rw [hy229]; with_reducible exact H2_) | (have H2_ := (Option.bind_some _ _).symm.trans H; with_reducible exact H2_) | with_reducible exact H | (rw [hy229]; exact H) | exact H
   have Ny229 := Aside0.mk hy229
   clear hy229
   have H' := Aside0.mk H
   clear H
   go_enter Tryd.func34, Tryd.ntmps34
   go_wp2_with (first | ((with_reducible refine gate_dst (N := 10) rfl ?_); refine Kd.R_make (Kd.int .u8) _ 5 rfl (N := 10) rfl 43 _ _ rfl a2 rfl rfl Tryd.underlying43 (.int .u8 0) 1 info5 rfl (by decide) (by omega) 0 (ok := fun _ => True) (okp := fun _ => True) rfl (fun _ hk => hk) trivial (of_decide_eq_true (by first | (with_reducible assumption) | assumption)) (Nat.le_trans (Nat.mul_le_mul_right _ (of_decide_eq_true (by first | (with_reducible assumption) | assumption) : a2.toNat ≤ 281474976710656)) (by omega)) (Below.refl _ _) (Nat.le_refl _) ?_; intro v230 w6 ho7 hb hg_ hnew_; clear hg_ hnew_; (first | rw [← Ny229.out] at ho7 | (simp only [Int.reduceToNat] at ho7; rw [← Ny229.out] at ho7)); have n0_ := Aside0.mk (Kd.R_lower ho7 (below_size (by repeat (first | (with_reducible first | exact HB.out | apply below_alloc | apply pw_below_drewN | apply below_drew1) | exact HB.out)))); have n1_ := Aside0.mk (below_step (by repeat (first | (with_reducible first | exact HB.out | apply below_alloc | apply pw_below_drewN | apply below_drew1) | exact HB.out)) hb); clear HB; have HO231 := n0_; have HB := n1_; clear n0_ n1_; clear hb ho7))
   go_loopg [7, 8] k (fun kq v7 v8 w' => ∃ (x7_1 : List Int) (x8_1 : Int), v8 = .int .i64 x8_1 ∧ Aside0 (quietusref05_Combine.l0 kq l0 l1 x7_1 x8_1 = some r) ∧ Aside0 (kq ≤ k) ∧ Aside0 (Kd.R (Kd.int .u8) 5 w' w.heap.size (fun _ => True) v7 x7_1) ∧ Aside0 (Below w.heap.size w w'))
   case atStart => exact ⟨(y229), (0), (by first | rfl | (simp; done) | (simp [*]; done)), H', ⟨Nat.le_refl _⟩, ⟨by (with_reducible repeat (first | apply Kd.R_alloc | apply Kd.R_drewN | apply Kd.R_drew)); exact HO231.out⟩, ⟨by repeat (first | (with_reducible first | exact HB.out | apply below_alloc | apply pw_below_drewN | apply below_drew1) | exact HB.out)⟩⟩
   case round =>
    clear H'
    try clear c1
    try clear p2
    try clear c3
    try clear c4
    try clear c4b0
    try clear c4b1
    try clear c5
    try clear c5b0
    try clear c5b1
    obtain ⟨x7_1, x8_1, rfl, HA, HK1, HO_7, HB⟩ := hrel
    cases gk with
    | zero => exact absurd HA.out (by simp [quietusref05_Combine.l0])
    | succ k1 =>
     have H := HA.out
     clear HA
     simp only [quietusref05_Combine.l0] at H
     by_cases c8 : x8_1 < (l1.length : Int)
     ·rw [if_pos c8] at H
      have c8b0 : decide (x8_1 < (l1.length : Int)) = true := decide_eq_true c8
      clear c8
      by_cases c9 : 0 ≤ x8_1
      ·rw [if_pos c9] at H
       have c9b0 : decide (0 ≤ x8_1) = true := decide_eq_true c9
       clear c9
       by_cases c10 : x8_1 < (l0.length : Int)
       ·rw [if_pos c10] at H
        have c10b0 : decide (x8_1 < (l0.length : Int)) = true := decide_eq_true c10
        clear c10
        replace H := Option.bind_eq_some_iff.mp H
        obtain ⟨t234, A110, H⟩ := H
        replace H : (quietusref05_Combine.l0 k1 l0 l1 t234 (wrap64 (x8_1 + 1))) = some r := H
        have A11 := Aside0.mk A110
        clear A110
        have H' := Aside0.mk H
        clear H
        try go_wp2
        have n0_ := Aside0.mk (Kd.R_drew HO_7.out)
        have n1_ := Aside0.mk (below_drew1 HB.out)
        clear HO_7
        clear HB
        have HO_7 := n0_
        have HB := n1_
        clear n0_ n1_
        have p232 : 0 ≤ (x8_1 : Int) := of_decide_eq_true (by first | (with_reducible assumption) | assumption)
        have q232 : x8_1 < (l0.length : Int) := of_decide_eq_true (by first | (with_reducible assumption) | assumption)
        obtain ⟨ad232, e232, hx232_0⟩ := Kd.at_int HR0.out x8_1 p232 q232
        have hw232_0 := hx232_0
        cases e232
        replace hx232_0 := (HB.out.cell (World.block_lt_of_cell? w _ hx232_0)).trans hx232_0
        replace p232 := eq_true p232
        replace q232 := eq_true q232
        have p233 : 0 ≤ (x8_1 : Int) := of_decide_eq_true (by first | (with_reducible assumption) | assumption)
        have q233 : x8_1 < (l1.length : Int) := of_decide_eq_true (by first | (with_reducible assumption) | assumption)
        obtain ⟨ad233, A233_0, c233_0, e233, hx233_0, hl233_0, hi233_0⟩ := at_L1 HR1.out x8_1 p233 q233
        have hw233_0 := hx233_0
        cases e233
        replace hx233_0 := (HB.out.cell (World.block_lt_of_cell? w _ hx233_0)).trans hx233_0
        have HR233_0 := Aside0.mk hi233_0
        have HC233_0 := Aside0.mk hl233_0
        clear hi233_0 hl233_0
        replace p233 := eq_true p233
        replace q233 := eq_true q233
        obtain ⟨Ao13, co13, eo13⟩ := Kd.R_slice HO_7.out
        (first | subst eo13 | (injection eo13 with f1_ f2_ f3_; have f4_ := f1_.symm; have f5_ := f3_.symm; clear f1_ f2_ f3_; subst f4_; subst f5_))
        refine start_ (n := 11) (S := fun w' => w'.cell? (ad232.add (x8_1).toNat) = some (.int .u8 (rd l0 x8_1)) ∧ w'.cell? (ad233.add (x8_1).toNat) = some (.slice A233_0 (rd_L1 l1 x8_1).length c233_0)) (ds := []) #[false, false, false, false, false, false, false, false, false, false, false] (by kernel_rfl) rfl rfl ⟨((HB.out.cell (World.block_lt_of_cell? w _ hw232_0)).trans hw232_0), ((HB.out.cell (World.block_lt_of_cell? w _ hw233_0)).trans hw233_0)⟩ (fun hHeld => ?_); refine with_tabW quietusref05_Combine.tab5 quietusref05_Combine.bits5 (fun HT_ HW_ => ?_)
        generalize wr.drew = w12 at HO_7 HB HR233_0 hx232_0 hx233_0 hHeld ⊢
        refine pure_ (i := 0) (N := some 17) (v := ?_) (a' := ?_) #[true, false, false, false, false, false, false, false, false, false, false] rfl rfl (any_of HT_.out (by kernel_rfl)) (fun _ _ _ h => h) (Or.inl ⟨by rfl, ?_⟩) ?_ ?_
        rotate_left
        ·intro w'
         go_simp
         with_reducible rfl
        rotate_left
        ·simp only [Act.put, List.setIfInBounds_toArray, List.set_cons_zero, List.set_cons_succ, i64_w, i32_w]
         rfl
        refine pure_ (i := 1) (N := some 18) (v := ?_) (a' := ?_) #[true, true, false, false, false, false, false, false, false, false, false] rfl rfl (any_of HT_.out (by kernel_rfl)) (fun _ _ _ h => h) (Or.inl ⟨by rfl, ?_⟩) ?_ ?_
        rotate_left
        ·intro w'
         go_simp
         with_reducible rfl
        rotate_left
        ·simp only [Act.put, List.setIfInBounds_toArray, List.set_cons_zero, List.set_cons_succ, i64_w, i32_w]
         rfl
        refine pure_ (i := 2) (N := some 19) (v := ?_) (a' := ?_) #[true, true, true, false, false, false, false, false, false, false, false] rfl rfl (any_of HT_.out (by kernel_rfl)) (fun _ _ _ h => h) (Or.inl ⟨by rfl, ?_⟩) ?_ ?_
        rotate_left
        ·intro w'
         go_simp
         with_reducible rfl
        rotate_left
        ·simp only [Act.put, List.setIfInBounds_toArray, List.set_cons_zero, List.set_cons_succ, i64_w, i32_w]
         rfl
        refine pure_ (i := 3) (N := some 20) (v := ?_) (a' := ?_) #[true, true, true, true, false, false, false, false, false, false, false] rfl rfl (any_of HT_.out (by kernel_rfl)) (fun _ _ _ h => h) (Or.inl ⟨by rfl, ?_⟩) ?_ ?_
        rotate_left
        ·intro w'
         go_simp
         with_reducible rfl
        rotate_left
        ·simp only [Act.put, List.setIfInBounds_toArray, List.set_cons_zero, List.set_cons_succ, i64_w, i32_w]
         rfl
        refine pure_ (i := 5) (N := some 22) (v := ?_) (a' := ?_) #[true, true, true, true, false, true, false, false, false, false, false] rfl rfl (any_of HT_.out (by kernel_rfl)) (fun _ _ _ h => h) (Or.inl ⟨by rfl, ?_⟩) ?_ ?_
        rotate_left
        ·intro w'
         go_simp
         with_reducible rfl
        rotate_left
        ·simp only [Act.put, List.setIfInBounds_toArray, List.set_cons_zero, List.set_cons_succ, i64_w, i32_w]
         rfl
        refine pure_ (i := 6) (N := some 23) (v := ?_) (a' := ?_) #[true, true, true, true, false, true, true, false, false, false, false] rfl rfl (any_of HT_.out (by kernel_rfl)) (fun _ _ _ h => h) (Or.inl ⟨by rfl, ?_⟩) ?_ ?_
        rotate_left
        ·intro w'
         go_simp
         with_reducible rfl
        rotate_left
        ·simp only [Act.put, List.setIfInBounds_toArray, List.set_cons_zero, List.set_cons_succ, i64_w, i32_w]
         rfl
        refine pure_ (i := 7) (N := some 24) (v := ?_) (a' := ?_) #[true, true, true, true, false, true, true, true, false, false, false] rfl rfl (any_of HT_.out (by kernel_rfl)) (fun _ _ _ h => h) (Or.inl ⟨by rfl, ?_⟩) ?_ ?_
        rotate_left
        ·intro w'
         go_simp
         with_reducible rfl
        rotate_left
        ·simp only [Act.put, List.setIfInBounds_toArray, List.set_cons_zero, List.set_cons_succ, i64_w, i32_w]
         rfl
        refine take_ (i := 4) (N := some 21) (v := ?_) (a' := ?_) #[true, true, true, true, true, true, true, true, false, false, false] rfl rfl (take_ofW HT_.out HW_.out (by kernel_rfl)) (fun _ _ _ h => h) (Or.inl ⟨by rfl, ?_⟩) hHeld ?_ ?_
        rotate_left
        ·rintro w' ⟨s0, s1⟩
         (try simp only [Int.toNat_natCast] at s0 s1)
         go_simp
         with_reducible rfl
        rotate_left
        ·simp only [Act.put, List.setIfInBounds_toArray, List.set_cons_zero, List.set_cons_succ, i64_w, i32_w]
         rfl
        refine take_ (i := 8) (N := some 25) (v := ?_) (a' := ?_) #[true, true, true, true, true, true, true, true, true, false, false] rfl rfl (take_ofW HT_.out HW_.out (by kernel_rfl)) (fun _ _ _ h => h) (Or.inl ⟨by rfl, ?_⟩) hHeld ?_ ?_
        rotate_left
        ·rintro w' ⟨s0, s1⟩
         (try simp only [Int.toNat_natCast] at s0 s1)
         go_simp
         with_reducible rfl
        rotate_left
        ·simp only [Act.put, List.setIfInBounds_toArray, List.set_cons_zero, List.set_cons_succ, i64_w, i32_w]
         rfl
        refine one_ (i := 9) (N := some 26) #[true, true, true, true, true, true, true, true, true, true, false] rfl rfl (one_of HT_.out (by kernel_rfl)) (by decide) (fun K hK => ?_)
        refine goes_ Tryd.func32 (by kernel_rfl) rfl #[.slice Ao13 x7_1.length co13, .int .u8 (rd l0 x8_1), .slice A233_0 (rd_L1 l1 x8_1).length c233_0] (by rfl) rfl rfl (by (try simp only [List.map_toArray, List.map_cons, List.map_nil]); first | done | rfl | (simp only [List.length_drop, List.length_take]; rfl)) ?_
        with_reducible refine (quietusref05_Sum.calls k1 _ _ x7_1 (rd l0 x8_1) _ _ (rd_L1 l1 x8_1) t234 _ ?side1 ?side2 ?side3 ?side4 A11.out).mono ?_
        (case side1 => repeat (first | exact (Kd.R_reads' HO_7.out).2.2 | (with_reducible refine Kd.C_alloc ?_ _) | (with_reducible refine Kd.C_drewN ?_ _) | (with_reducible refine Kd.C_drew ?_)))
        (case side2 => exact (Kd.R_reads' HO_7.out).2.1)
        (case side3 => repeat (first | exact (Kd.C_below HR233_0.out HB.out) | (with_reducible refine Kd.C_alloc ?_ _) | (with_reducible refine Kd.C_drewN ?_ _) | (with_reducible refine Kd.C_drew ?_)))
        (case side4 => exact HC233_0.out)
        rintro e w14 ⟨v235, rfl, ho0, hb⟩
        refine ⟨_, rfl, ?_⟩
        have n0_ := Aside0.mk (Kd.R_elder' (by (with_reducible repeat (first | apply Kd.R_alloc | apply Kd.R_drewN | apply Kd.R_drew)); exact HO_7.out) (Kd.R_base ho0) hb)
        have n1_ := Aside0.mk (Kd.R_lower (Kd.R_new' ho0 (Kd.R_lt (by (with_reducible repeat (first | apply Kd.R_alloc | apply Kd.R_drewN | apply Kd.R_drew)); exact HO_7.out))) (below_size (by repeat (first | (with_reducible first | exact HB.out | apply below_alloc | apply pw_below_drewN | apply below_drew1) | exact HB.out))))
        have n2_ := Aside0.mk (below_step (by repeat (first | (with_reducible first | exact HB.out | apply below_alloc | apply pw_below_drewN | apply below_drew1) | exact HB.out)) hb)
        clear HO_7
        clear HB
        have HO_7 := n0_
        have HO236 := n1_
        have HB := n2_
        clear n0_ n1_ n2_
        (try clear hb)
        (try clear hb2)
        (try clear hk)
        (try clear hi)
        (try clear ho0)
        refine hK.out _ _ ⟨((HB.out.cell (World.block_lt_of_cell? w _ hw232_0)).trans hw232_0), ((HB.out.cell (World.block_lt_of_cell? w _ hw233_0)).trans hw233_0)⟩ (fun hHeld => ?_)
        clear hK K
        refine norm_ (a' := ?_) ?_ ?_
        rotate_left
        ·show Act.put _ (some 26) _ = _
         simp only [Act.put, List.setIfInBounds_toArray, List.set_cons_zero, List.set_cons_succ, i64_w, i32_w]
         rfl
        refine pure_ (i := 10) (N := some 7) (v := ?_) (a' := ?_) #[true, true, true, true, true, true, true, true, true, true, true] rfl rfl (any_of HT_.out (by kernel_rfl)) (fun _ _ _ h => h) (Or.inl ⟨by rfl, ?_⟩) ?_ ?_
        rotate_left
        ·intro w'
         go_simp
         with_reducible rfl
        rotate_left
        ·simp only [Act.put, List.setIfInBounds_toArray, List.set_cons_zero, List.set_cons_succ, i64_w, i32_w]
         rfl
        refine done_ (done_of HT_.out (by kernel_rfl)) ?_
        try go_wp2
        go_roundg k1
        case measure => have := HK1.out; omega
        case rel => exact ⟨(t234), (wrap64 (x8_1 + 1)), (by first | rfl | (simp; done) | (simp [*]; done)), H', ⟨by have := HK1.out; omega⟩, ⟨by (with_reducible repeat (first | apply Kd.R_alloc | apply Kd.R_drewN | apply Kd.R_drew)); exact Kd.R_mono HO236.out (fun _ hk => trivial)⟩, ⟨by repeat (first | (with_reducible first | exact HB.out | apply below_alloc | apply pw_below_drewN | apply below_drew1) | exact HB.out)⟩⟩
       ·rw [if_neg c10] at H
        exact absurd H (by simp)
      ·rw [if_neg c9] at H
       exact absurd H (by simp)
     ·rw [if_neg c8] at H
      have c8b0 : decide (x8_1 < (l1.length : Int)) = false := decide_eq_false c8
      clear c8
      obtain rfl := Option.some.inj H
      go_wp2
      go_ret
      exact ⟨_, by first | rfl | (simp [errW_none, errW_some] <;> rfl) | (simp [*, errW_none, errW_some] <;> rfl), by (with_reducible repeat (first | apply Kd.R_alloc | apply Kd.R_drewN | apply Kd.R_drew)); exact HO_7.out, by repeat (first | (with_reducible first | exact HB.out | apply below_alloc | apply pw_below_drewN | apply below_drew1) | exact HB.out)⟩
  ·rw [if_neg c5] at H
   exact absurd H (by simp)
 ·rw [if_neg c4] at H
  exact absurd H (by simp)
end Go.Proofs.YtijebgceopddmaaDoor.Pa
end
section
namespace Go.Proofs.YtijebgceopddmaaDoor.Pa
open Go.RowKit Go.Proofs.YtijebgceopddmaaDoor.Gf Go.Proofs.YtijebgceopddmaaDoor.Pr Go.Proofs.YtijebgceopddmaaDoorW.PrintWords Go.Proofs.YtijebgceopddmaaDoorW.PrintLast Go.Proofs.YtijebgceopddmaaDoorW.PrintMore
attribute [local go_sem] max2_int min2_int max_two min_two max_three min_three max_four min_four   -- for this text's walks alone
set_option linter.unusedVariables false
set_option linter.unusedSimpArgs false
mutual
def quietusref05_Product.j0 : Nat → List (List Int) → List (List Int) → Int → Option ((List (List Int)) × Int)
 | 0, _, _, _ => none
 | k + 1, x0, x1, x5 => if x5 = 0 then ((quietusref05_Columns.f x0).bind fun t240 => (if t240 = (x1.length : Int) then (quietusref05_Product.l0 k x0 x1 ([] : List (List Int)) 0) else (some (([] : List (List Int)), 1)))) else (some (([] : List (List Int)), x5))
def quietusref05_Product.l0 : Nat → List (List Int) → List (List Int) → List (List Int) → Int → Option ((List (List Int)) × Int)
 | 0, _, _, _, _ => none
 | k + 1, x0, x1, x6, x7 => if x7 < (x0.length : Int) then (if 0 ≤ x7 then ((quietusref05_Columns.f x1).bind fun t242 => ((quietusref05_Combine.f k (rd_L1 x0 x7) x1 t242).bind fun t243 => (if x6.length < 5864062014805 then (quietusref05_Product.l0 k x0 x1 (x6 ++ [t243]) (wrap64 (x7 + 1))) else (none)))) else (none)) else (some (x6, 0))
end
def quietusref05_Product.f (k : Nat) (l0 : List (List Int)) (l1 : List (List Int)) : Option ((List (List Int)) × Int) := (quietusref05_Check.f k l0).bind fun t238 => (if t238 = 0 then ((quietusref05_Check.f k l1).bind fun t239 => (quietusref05_Product.j0 k l0 l1 t239)) else (quietusref05_Product.j0 k l0 l1 t238))
-- NOT PRINTED: function 5 (quietuslaw05_MatrixProductsAsSpecified)
def quietusref05_column.l0 : Nat → List (List Int) → Int → List Int → Int → Option (List Int)
 | 0, _, _, _, _ => none
 | k + 1, x0, x1, x5, x6 => if x6 < (x0.length : Int) then (if 0 ≤ x6 then (if 0 ≤ x1 then (if x1 < ((rd_L1 x0 x6).length : Int) then (if x5.length < 140737488355328 then (quietusref05_column.l0 k x0 x1 (x5 ++ [rd (rd_L1 x0 x6) x1]) (wrap64 (x6 + 1))) else (none)) else (none)) else (none)) else (none)) else (some x5)
def quietusref05_column.f (k : Nat) (l0 : List (List Int)) (a1 : Int) : Option (List Int) := quietusref05_column.l0 k l0 a1 ([] : List Int) 0
def quietusref05_Transpose.l0 : Nat → List (List Int) → List (List Int) → Int → Option ((List (List Int)) × Int)
 | 0, _, _, _ => none
 | k + 1, x0, x4, x5 => (quietusref05_Columns.f x0).bind fun t305 => (if x5 < t305 then ((quietusref05_column.f k x0 x5).bind fun t306 => (if x4.length < 5864062014805 then (quietusref05_Transpose.l0 k x0 (x4 ++ [t306]) (wrap64 (x5 + 1))) else (none))) else (some (x4, 0)))
def quietusref05_Transpose.f (k : Nat) (l0 : List (List Int)) : Option ((List (List Int)) × Int) := (quietusref05_Check.f k l0).bind fun t304 => (if t304 = 0 then (quietusref05_Transpose.l0 k l0 ([] : List (List Int)) 0) else (some (([] : List (List Int)), t304)))
def quietuslaw05_mapped.f (k : Nat) (l0 : List (List Int)) (l1 : List Int) (l2 : List Int) : Option (Bool) := (quietusref05_Transpose.f k l0).bind fun bt312 => ((quietusref05_Combine.f k l1 bt312.1 (l0.length : Int)).bind fun t317 => ((quietusref05_SameRow.f k t317 l2).bind fun t320 => (some t320)))
-- NOT PRINTED: function 6 (quietuslaw05_MatrixSolutionsAreAll)
def quietusref05_Identity.l0 : Nat → Int → List (List Int) → Int → Option ((List (List Int)))
 | 0, _, _, _ => none
 | k + 1, x0, x3, x4 => if x4 < x0 then (if 0 ≤ x0 then (if (x0 : Int).toNat ≤ 281474976710656 then ((some (List.replicate (x0 : Int).toNat 0 : List Int)).bind fun y321 => (if 0 ≤ x4 then (if x4 < (y321.length : Int) then (if x3.length < 5864062014805 then (quietusref05_Identity.l0 k x0 (x3 ++ [(y321.set (x4 : Int).toNat 1)]) (wrap64 (x4 + 1))) else (none)) else (none)) else (none))) else (none)) else (none)) else (some x3)
def quietusref05_Identity.f (k : Nat) (a0 : Int) : Option ((List (List Int))) := quietusref05_Identity.l0 k a0 ([] : List (List Int)) 0
end Go.Proofs.YtijebgceopddmaaDoor.Pa
end
section
set_option linter.unusedVariables false
namespace Go.Proofs.YtijebgceopddmaaDoor.Ax
open Go.RowKit Go.Proofs.YtijebgceopddmaaDoorW.PrintWords Go.Proofs.YtijebgceopddmaaDoor.Gf Go.Proofs.YtijebgceopddmaaDoor.Pa
theorem gamOk : GamOk HighIn := fun W0 h0 W W' hb h j hj => (hb.cell (p := ⟨0, j, none⟩) h0.size).trans (h j hj)
theorem drawn_below {W W' : World} (h : Drawn0 W W') : Below W.heap.size W W' := by obtain ⟨n, rfl⟩ := h.out; exact pw_below_drewN (Below.refl _ _) n
section
variable {ok : Nat → Prop} {W : World} {v : Value} {k : IntKind}
theorem at_grid {xss : List (List Int)} (h : Rep ok W v (gridD k xss)) : ∃ A c, v = .slice A xss.length c ∧ xss.length ≤ c ∧ (Kd.slice 5 (Kd.int k)).C W A xss.length xss ∧ Kd.V (Kd.slice 5 (Kd.int k)) 43 W W.heap.size (fun q => ok q) v xss := by
  obtain ⟨A, c, rfl, hl⟩ := rep_slice h
  rw [List.length_map] at h hl ⊢
  exact ⟨A, c, rfl, hl, (rep_C_grid h).2.2, Kd.V_mk hl (rep_F_grid h)⟩
theorem at_row {xs : List Int} (h : Rep ok W v (rowD k xs)) : ∃ A c, v = .slice A xs.length c ∧ xs.length ≤ c ∧ (Kd.int k).C W A xs.length xs := by
  obtain ⟨A, c, rfl, hl⟩ := rep_slice h
  rw [List.length_map] at h hl ⊢
  exact ⟨A, c, rfl, hl, (rep_C_int h).2.2⟩
theorem tup2 {u1 u2 : Value} {x1 x2 : D} (h1 : Rep ok W u1 x1) (h2 : Rep ok W u2 x2) : RepR ok W (.tuple #[u1, u2]) (.tup [x1, x2]) :=
  ⟨_, rfl, rfl, fun i u y hu hy => by
    match i with
    | 0 => simp at hu hy; subst hu hy; exact h1
    | 1 => simp at hu hy; subst hu hy; exact h2
    | i + 2 => simp at hy⟩
theorem tup3 {u1 u2 u3 : Value} {x1 x2 x3 : D} (h1 : Rep ok W u1 x1) (h2 : Rep ok W u2 x2) (h3 : Rep ok W u3 x3) : RepR ok W (.tuple #[u1, u2, u3]) (.tup [x1, x2, x3]) :=
  ⟨_, rfl, rfl, fun i u y hu hy => by
    match i with
    | 0 => simp at hu hy; subst hu hy; exact h1
    | 1 => simp at hu hy; subst hu hy; exact h2
    | 2 => simp at hu hy; subst hu hy; exact h3
    | i + 3 => simp at hy⟩
end
theorem sp10 {k : Nat} {l0 : List (List Int)} {a1 : Int} {r1 : Bool} (h : quietusref05_Few.f k l0 a1 = some (r1)) : Spec Tryd.prog HighIn 10 ([gridD .u8 l0, iD .i64 a1].map T.d) (.d (D.val (.bool r1))) := by
  refine ⟨⟨_, Tryd.func10, by kernel_rfl, by kernel_rfl⟩, _, rfl, fun ok W vs hG hl hargs => ?_⟩
  match vs, hl, hargs with
  | [v0, v1], _, hargs =>
    have g0 := hargs 0 _ _ rfl rfl
    obtain ⟨A0, c0, rfl, k0, C0, V0⟩ := at_grid g0
    have g1 := hargs 1 _ _ rfl rfl
    obtain rfl := rep_int g1
    refine (quietusref05_Few.calls k A0 c0 l0 a1 r1 W C0 k0 h).mono ?_
    rintro e W' ⟨rfl, hb⟩
    exact ⟨_, rfl, (Rep.val _ rfl), drawn_below hb⟩
theorem sp16 {k : Nat} {l0 : List (List Int)} {r1 : Int} (h : matrix_Check.f k l0 = some (r1)) : Spec Tryd.prog HighIn 16 ([gridD .u8 l0].map T.d) (.d (iD .i64 r1)) := by
  refine ⟨⟨_, Tryd.func16, by kernel_rfl, by kernel_rfl⟩, _, rfl, fun ok W vs hG hl hargs => ?_⟩
  match vs, hl, hargs with
  | [v0], _, hargs =>
    have g0 := hargs 0 _ _ rfl rfl
    obtain ⟨A0, c0, rfl, k0, C0, V0⟩ := at_grid g0
    refine (matrix_Check.calls k A0 c0 l0 r1 W C0 k0 h).mono ?_
    rintro e W' ⟨rfl, hb⟩
    exact ⟨_, rfl, (Rep.val _ rfl), drawn_below hb⟩
theorem sp13 {k : Nat} {l0 : List (List Int)} {r1 : List (List Int)} {r2 : Int} (h : matrix_Transpose.f k l0 = some (r1, r2)) : Spec Tryd.prog HighIn 13 ([gridD .u8 l0].map T.d) (.tup [gridD .u8 r1, iD .i64 r2]) := by
  refine ⟨⟨_, Tryd.func13, by kernel_rfl, by kernel_rfl⟩, _, rfl, fun ok W vs hG hl hargs => ?_⟩
  match vs, hl, hargs with
  | [v0], _, hargs =>
    have g0 := hargs 0 _ _ rfl rfl
    obtain ⟨A0, c0, rfl, k0, C0, V0⟩ := at_grid g0
    refine (matrix_Transpose.calls k A0 c0 l0 r1 r2 W hG C0 k0 h).mono ?_
    rintro e W' ⟨x0, rfl, m0, hb⟩
    exact ⟨_, rfl, tup2 ((S_rep_grid m0).mono fun q hq _ => .inr hq) (Rep.val _ rfl), hb⟩
theorem sp14 {k : Nat} {l0 : List (List Int)} {r1 : List (List Int)} {r2 : List Int} {r3 : Int} (h : matrix_Reduce.f k l0 = some (r1, r2, r3)) : Spec Tryd.prog HighIn 14 ([gridD .u8 l0].map T.d) (.tup [gridD .u8 r1, rowD .i64 r2, iD .i64 r3]) := by
  refine ⟨⟨_, Tryd.func14, by kernel_rfl, by kernel_rfl⟩, _, rfl, fun ok W vs hG hl hargs => ?_⟩
  match vs, hl, hargs with
  | [v0], _, hargs =>
    have g0 := hargs 0 _ _ rfl rfl
    obtain ⟨A0, c0, rfl, k0, C0, V0⟩ := at_grid g0
    refine (matrix_Reduce.calls k A0 c0 l0 r1 r2 r3 W hG C0 k0 h).mono ?_
    rintro e W' ⟨x0, x1, rfl, m0, m1, hb⟩
    exact ⟨_, rfl, tup3 ((S_rep_grid m0).mono fun q hq _ => .inr hq) ((R_rep_int m1).mono fun q hq _ => .inr hq) (Rep.val _ rfl), hb⟩
theorem sp15 {k : Nat} {l0 : List (List Int)} {r1 : Int} {r2 : Int} (h : matrix_Rank.f k l0 = some (r1, r2)) : Spec Tryd.prog HighIn 15 ([gridD .u8 l0].map T.d) (.tup [iD .i64 r1, iD .i64 r2]) := by
  refine ⟨⟨_, Tryd.func15, by kernel_rfl, by kernel_rfl⟩, _, rfl, fun ok W vs hG hl hargs => ?_⟩
  match vs, hl, hargs with
  | [v0], _, hargs =>
    have g0 := hargs 0 _ _ rfl rfl
    obtain ⟨A0, c0, rfl, k0, C0, V0⟩ := at_grid g0
    refine (matrix_Rank.calls k A0 c0 l0 r1 r2 W hG C0 k0 h).mono ?_
    rintro e W' ⟨rfl, hb⟩
    exact ⟨_, rfl, tup2 (Rep.val _ rfl) (Rep.val _ rfl), hb⟩
theorem sp27 {k : Nat} {l0 : List Int} {l1 : List Int} {r1 : Bool} (h : quietusref05_SameRow.f k l0 l1 = some (r1)) : Spec Tryd.prog HighIn 27 ([rowD .u8 l0, rowD .u8 l1].map T.d) (.d (D.val (.bool r1))) := by
  refine ⟨⟨_, Tryd.func27, by kernel_rfl, by kernel_rfl⟩, _, rfl, fun ok W vs hG hl hargs => ?_⟩
  match vs, hl, hargs with
  | [v0, v1], _, hargs =>
    have g0 := hargs 0 _ _ rfl rfl
    obtain ⟨A0, c0, rfl, k0, C0⟩ := at_row g0
    have g1 := hargs 1 _ _ rfl rfl
    obtain ⟨A1, c1, rfl, k1, C1⟩ := at_row g1
    refine (quietusref05_SameRow.calls k A0 c0 l0 A1 c1 l1 r1 W C0 k0 C1 k1 h).mono ?_
    rintro e W' ⟨rfl, hb⟩
    exact ⟨_, rfl, (Rep.val _ rfl), drawn_below hb⟩
theorem sp19 {k : Nat} {l0 : List (List Int)} {l1 : List (List Int)} {r1 : Bool} (h : quietusref05_Same.f k l0 l1 = some (r1)) : Spec Tryd.prog HighIn 19 ([gridD .u8 l0, gridD .u8 l1].map T.d) (.d (D.val (.bool r1))) := by
  refine ⟨⟨_, Tryd.func19, by kernel_rfl, by kernel_rfl⟩, _, rfl, fun ok W vs hG hl hargs => ?_⟩
  match vs, hl, hargs with
  | [v0, v1], _, hargs =>
    have g0 := hargs 0 _ _ rfl rfl
    obtain ⟨A0, c0, rfl, k0, C0, V0⟩ := at_grid g0
    have g1 := hargs 1 _ _ rfl rfl
    obtain ⟨A1, c1, rfl, k1, C1, V1⟩ := at_grid g1
    refine (quietusref05_Same.calls k A0 c0 l0 A1 c1 l1 r1 W C0 k0 C1 k1 h).mono ?_
    rintro e W' ⟨rfl, hb⟩
    exact ⟨_, rfl, (Rep.val _ rfl), drawn_below hb⟩
theorem sp20 {k : Nat} {l0 : List Int} {l1 : List Int} {r1 : Bool} (h : quietusref05_SameList.f k l0 l1 = some (r1)) : Spec Tryd.prog HighIn 20 ([rowD .i64 l0, rowD .i64 l1].map T.d) (.d (D.val (.bool r1))) := by
  refine ⟨⟨_, Tryd.func20, by kernel_rfl, by kernel_rfl⟩, _, rfl, fun ok W vs hG hl hargs => ?_⟩
  match vs, hl, hargs with
  | [v0, v1], _, hargs =>
    have g0 := hargs 0 _ _ rfl rfl
    obtain ⟨A0, c0, rfl, k0, C0⟩ := at_row g0
    have g1 := hargs 1 _ _ rfl rfl
    obtain ⟨A1, c1, rfl, k1, C1⟩ := at_row g1
    refine (quietusref05_SameList.calls k A0 c0 l0 A1 c1 l1 r1 W C0 k0 C1 k1 h).mono ?_
    rintro e W' ⟨rfl, hb⟩
    exact ⟨_, rfl, (Rep.val _ rfl), drawn_below hb⟩
theorem sp21 {k : Nat} {l0 : List (List Int)} {l1 : List Int} {r1 : List Int} {r2 : List (List Int)} {r3 : Int} (h : matrix_Solve.f k l0 l1 = some (r1, r2, r3)) : Spec Tryd.prog HighIn 21 ([gridD .u8 l0, rowD .u8 l1].map T.d) (.tup [rowD .u8 r1, gridD .u8 r2, iD .i64 r3]) := by
  refine ⟨⟨_, Tryd.func21, by kernel_rfl, by kernel_rfl⟩, _, rfl, fun ok W vs hG hl hargs => ?_⟩
  match vs, hl, hargs with
  | [v0, v1], _, hargs =>
    have g0 := hargs 0 _ _ rfl rfl
    obtain ⟨A0, c0, rfl, k0, C0, V0⟩ := at_grid g0
    have g1 := hargs 1 _ _ rfl rfl
    obtain ⟨A1, c1, rfl, k1, C1⟩ := at_row g1
    refine (matrix_Solve.calls k A0 c0 l0 A1 c1 l1 r1 r2 r3 W hG C0 k0 C1 k1 h).mono ?_
    rintro e W' ⟨x0, x1, rfl, m0, m1, hb⟩
    exact ⟨_, rfl, tup3 ((R_rep_int m0).mono fun q hq _ => .inr hq) ((S_rep_grid m1).mono fun q hq _ => .inr hq) (Rep.val _ rfl), hb⟩
theorem sp23 {k : Nat} {l0 : List (List Int)} {r1 : List (List Int)} {r2 : Int} (h : matrix_Inverse.f k l0 = some (r1, r2)) : Spec Tryd.prog HighIn 23 ([gridD .u8 l0].map T.d) (.tup [gridD .u8 r1, iD .i64 r2]) := by
  refine ⟨⟨_, Tryd.func23, by kernel_rfl, by kernel_rfl⟩, _, rfl, fun ok W vs hG hl hargs => ?_⟩
  match vs, hl, hargs with
  | [v0], _, hargs =>
    have g0 := hargs 0 _ _ rfl rfl
    obtain ⟨A0, c0, rfl, k0, C0, V0⟩ := at_grid g0
    refine (matrix_Inverse.calls k A0 c0 l0 r1 r2 W hG C0 k0 h).mono ?_
    rintro e W' ⟨x0, rfl, m0, hb⟩
    exact ⟨_, rfl, tup2 ((S_rep_grid m0).mono fun q hq _ => .inr hq) (Rep.val _ rfl), hb⟩
theorem sp25 {k : Nat} {l0 : List (List Int)} {l1 : List Int} {r1 : List Int} {r2 : Int} (h : matrix_Express.f k l0 l1 = some (r1, r2)) : Spec Tryd.prog HighIn 25 ([gridD .u8 l0, rowD .u8 l1].map T.d) (.tup [rowD .u8 r1, iD .i64 r2]) := by
  refine ⟨⟨_, Tryd.func25, by kernel_rfl, by kernel_rfl⟩, _, rfl, fun ok W vs hG hl hargs => ?_⟩
  match vs, hl, hargs with
  | [v0, v1], _, hargs =>
    have g0 := hargs 0 _ _ rfl rfl
    obtain ⟨A0, c0, rfl, k0, C0, V0⟩ := at_grid g0
    have g1 := hargs 1 _ _ rfl rfl
    obtain ⟨A1, c1, rfl, k1, C1⟩ := at_row g1
    refine (matrix_Express.calls k A0 c0 l0 A1 c1 l1 r1 r2 W hG C0 k0 C1 k1 h).mono ?_
    rintro e W' ⟨x0, rfl, m0, hb⟩
    exact ⟨_, rfl, tup2 ((R_rep_int m0).mono fun q hq _ => .inr hq) (Rep.val _ rfl), hb⟩
theorem sp28 {k : Nat} {l0 : List (List Int)} {l1 : List (List Int)} {r1 : List (List Int)} {r2 : Int} (h : matrix_Product.f k l0 l1 = some (r1, r2)) : Spec Tryd.prog HighIn 28 ([gridD .u8 l0, gridD .u8 l1].map T.d) (.tup [gridD .u8 r1, iD .i64 r2]) := by
  refine ⟨⟨_, Tryd.func28, by kernel_rfl, by kernel_rfl⟩, _, rfl, fun ok W vs hG hl hargs => ?_⟩
  match vs, hl, hargs with
  | [v0, v1], _, hargs =>
    have g0 := hargs 0 _ _ rfl rfl
    obtain ⟨A0, c0, rfl, k0, C0, V0⟩ := at_grid g0
    have g1 := hargs 1 _ _ rfl rfl
    obtain ⟨A1, c1, rfl, k1, C1, V1⟩ := at_grid g1
    refine (matrix_Product.calls k (fun q => ok q) A0 c0 l0 (fun q => ok q) A1 c1 l1 r1 r2 W hG V0 V1 h).mono ?_
    rintro e W' ⟨x0, rfl, m0, hb⟩
    exact ⟨_, rfl, tup2 ((N_rep_grid m0).mono fun q hq _ => by rcases hq with (hq | hq) | hq <;> first | exact .inl hq | exact .inr hq) (Rep.val _ rfl), hb⟩
theorem sp12 {k : Nat} {l0 : List (List Int)} {r1 : Int} (h : quietusref05_Check.f k l0 = some (r1)) : Spec Tryd.prog HighIn 12 ([gridD .u8 l0].map T.d) (.d (iD .i64 r1)) := by
  refine ⟨⟨_, Tryd.func12, by kernel_rfl, by kernel_rfl⟩, _, rfl, fun ok W vs hG hl hargs => ?_⟩
  match vs, hl, hargs with
  | [v0], _, hargs =>
    have g0 := hargs 0 _ _ rfl rfl
    obtain ⟨A0, c0, rfl, k0, C0, V0⟩ := at_grid g0
    refine (quietusref05_Check.calls k A0 c0 l0 r1 W C0 k0 h).mono ?_
    rintro e W' ⟨rfl, hb⟩
    exact ⟨_, rfl, (Rep.val _ rfl), drawn_below hb⟩
theorem sp30 {l0 : List (List Int)} {r1 : Int} (h : quietusref05_Columns.f l0 = some (r1)) : Spec Tryd.prog HighIn 30 ([gridD .u8 l0].map T.d) (.d (iD .i64 r1)) := by
  refine ⟨⟨_, Tryd.func30, by kernel_rfl, by kernel_rfl⟩, _, rfl, fun ok W vs hG hl hargs => ?_⟩
  match vs, hl, hargs with
  | [v0], _, hargs =>
    have g0 := hargs 0 _ _ rfl rfl
    obtain ⟨A0, c0, rfl, k0, C0, V0⟩ := at_grid g0
    refine (quietusref05_Columns.calls A0 c0 l0 r1 W C0 k0 h).mono ?_
    rintro e W' ⟨rfl, hb⟩
    exact ⟨_, rfl, (Rep.val _ rfl), drawn_below hb⟩
theorem sp34 {k : Nat} {l0 : List Int} {l1 : List (List Int)} {a2 : Int} {r1 : List Int} (h : quietusref05_Combine.f k l0 l1 a2 = some (r1)) : Spec Tryd.prog HighIn 34 ([rowD .u8 l0, gridD .u8 l1, iD .i64 a2].map T.d) (.d (rowD .u8 r1)) := by
  refine ⟨⟨_, Tryd.func34, by kernel_rfl, by kernel_rfl⟩, _, rfl, fun ok W vs hG hl hargs => ?_⟩
  match vs, hl, hargs with
  | [v0, v1, v2], _, hargs =>
    have g0 := hargs 0 _ _ rfl rfl
    obtain ⟨A0, c0, rfl, k0, C0⟩ := at_row g0
    have g1 := hargs 1 _ _ rfl rfl
    obtain ⟨A1, c1, rfl, k1, C1, V1⟩ := at_grid g1
    have g2 := hargs 2 _ _ rfl rfl
    obtain rfl := rep_int g2
    refine (quietusref05_Combine.calls k A0 c0 l0 A1 c1 l1 a2 r1 W C0 k0 C1 k1 h).mono ?_
    rintro e W' ⟨x0, rfl, m0, hb⟩
    exact ⟨_, rfl, ((R_rep_int m0).mono fun q hq _ => .inr hq), hb⟩
end Go.Proofs.YtijebgceopddmaaDoor.Ax
end
section
set_option linter.unusedVariables false
set_option linter.unusedSimpArgs false
namespace Go.Proofs.YtijebgceopddmaaDoor.Ax
open Go.RowKit
section
variable {P : Program} {C : FuncId → List T → T → Prop} {N : Nat} {S : St} {Q : Exit → St → Prop} {x y z : Code}
theorem a_region {i : Nat} {ops : Array Oper} (h : awpOps P C N ops ops.toList S (Q .normal)) : awp P C N (.region i ops false) Q S := h
theorem a_seq_region {i : Nat} {ops : Array Oper} (h : awpOps P C N ops ops.toList S (awp P C N y Q)) : awp P C N (.seq (.region i ops false) y) Q S := h
theorem a_seq_skip (h : awp P C N y Q S) : awp P C N (.seq .skip y) Q S := h
theorem a_seq_ret (h : Q .ret S) : awp P C N (.seq .ret y) Q S := h
theorem a_ret (h : Q .ret S) : awp P C N .ret Q S := h
theorem a_skip (h : Q .normal S) : awp P C N .skip Q S := h
theorem a_assoc (h : awp P C N (.seq x (.seq y z)) Q S) : awp P C N (.seq (.seq x y) z) Q S := by
  simp only [awp] at h ⊢
  refine Eq.mp ?_ h
  congr 1
  funext e S'
  cases e <;> rfl
theorem a_seq_true {c : Operand} (hc : S.eval c = .d (.val (.bool true))) (h : awp P C N (.seq x z) Q S) : awp P C N (.seq (.cond c x y) z) Q S := by
  simp only [awp, hc]
  exact ⟨fun _ => h, (fun e => nomatch e)⟩
theorem a_seq_false {c : Operand} (hc : S.eval c = .d (.val (.bool false))) (h : awp P C N (.seq y z) Q S) : awp P C N (.seq (.cond c x y) z) Q S := by
  simp only [awp, hc]
  exact ⟨(fun e => nomatch e), fun _ => h⟩
theorem a_false {c : Operand} (hc : S.eval c = .d (.val (.bool false))) (h : awp P C N y Q S) : awp P C N (.cond c x y) Q S := by
  simp only [awp, hc]
  exact ⟨(fun e => nomatch e), fun _ => h⟩
end
section
variable {P : Program} {C : FuncId → List T → T → Prop} {N : Nat} {ops : Array Oper} {S : St} {K : St → Prop} {rest : List Oper} {d : Nat} {ty : TypeId} {pos : String} {af : Array Edge}
theorem n_nil (h : K S) : awpOps P C N ops [] S K := h
theorem n_on {o : Oper} {j q : Nat} {want : Bool} (hg : o.guard = some (j, want)) (hj : (ops[j]?).bind (·.dst) = some q) (hq : q < N) (hb : S.f q = .d (.val (.bool want))) (h : awpOps P C N ops ({ o with guard := none } :: rest) S K) : awpOps P C N ops (o :: rest) S K := by
  unfold awpOps at h ⊢
  simp only [hg, hj, hb]
  exact ⟨hq, fun _ => h, fun e => absurd rfl e⟩
theorem n_off {o : Oper} {j q : Nat} {want b : Bool} (hg : o.guard = some (j, want)) (hj : (ops[j]?).bind (·.dst) = some q) (hq : q < N) (hb : S.f q = .d (.val (.bool b))) (hne : b ≠ want) (hdst : o.dst = some d) (hd : d < N) (h : awpOps P C N ops rest (S.put d (.d .any)) K) : awpOps P C N ops (o :: rest) S K := by
  unfold awpOps
  simp only [hg, hj, hb]
  rw [hdst]
  exact ⟨hq, fun e => absurd e hne, fun _ => ⟨hd, h⟩⟩
theorem n_move {x : Operand} (hd : d < N) {v : T} (hx : S.eval x = v) (h : awpOps P C N ops rest (S.put d v) K) : awpOps P C N ops ({ dst := some d, op := .move x, type := ty, pos := pos, after := af, guard := none } :: rest) S K := by
  subst hx; exact ⟨hd, h⟩
theorem n_assign {x : Operand} (hd : d < N) {v : T} (hx : S.eval x = v) (h : awpOps P C N ops rest (S.put d v) K) : awpOps P C N ops ({ dst := some d, op := .assign x, type := ty, pos := pos, after := af, guard := none } :: rest) S K := by
  subst hx; exact ⟨hd, h⟩
theorem n_pick {c x y : Operand} (hd : d < N) {b : Bool} (hc : S.eval c = .d (.val (.bool b))) {v : T} (hx : (if b then S.eval x else S.eval y) = v) (h : awpOps P C N ops rest (S.put d v) K) : awpOps P C N ops ({ dst := some d, op := .pick c x y, type := ty, pos := pos, after := af, guard := none } :: rest) S K := by
  subst hx
  simp only [awpOps, awpOp, hc]
  exact ⟨hd, h⟩
theorem n_extract {x : Operand} {i : Nat} (hd : d < N) {ts : List D} {t : D} (hx : S.eval x = .tup ts) (hi : ts[i]? = some t) (h : awpOps P C N ops rest (S.put d (.d t)) K) : awpOps P C N ops ({ dst := some d, op := .extract x i, type := ty, pos := pos, after := af, guard := none } :: rest) S K := by
  simp only [awpOps, awpOp, hx, hi]
  exact ⟨hd, h⟩
theorem n_int {op : BinOp} {t yt : TypeId} {x y : Operand} (hd : d < N) {k : IntKind} {m n : Int} {v : Value} (hx : S.eval x = .d (.val (.int k m))) (hy : S.eval y = .d (.val (.int k n))) (hv : intOp op k m n = some v) (h : awpOps P C N ops rest (S.put d (.d (.val v))) K) : awpOps P C N ops ({ dst := some d, op := .binOp op t x y yt, type := ty, pos := pos, after := af, guard := none } :: rest) S K := by
  simp only [awpOps, awpOp, hx, hy]
  exact ⟨trivial, v, hv, hd, h⟩
theorem n_bool {op : BinOp} {t yt : TypeId} {x y : Operand} (hd : d < N) {m n : Bool} {v : Value} (ht : P.underlying t = some .bool) (hx : S.eval x = .d (.val (.bool m))) (hy : S.eval y = .d (.val (.bool n))) (hv : boolOp op m n = some v) (h : awpOps P C N ops rest (S.put d (.d (.val v))) K) : awpOps P C N ops ({ dst := some d, op := .binOp op t x y yt, type := ty, pos := pos, after := af, guard := none } :: rest) S K := by
  simp only [awpOps, awpOp, hx, hy]
  exact ⟨ht, v, hv, hd, h⟩
theorem n_not {t : TypeId} {x : Operand} (hd : d < N) {b : Bool} (hx : S.eval x = .d (.val (.bool b))) (h : awpOps P C N ops rest (S.put d (.d (.val (.bool !b)))) K) : awpOps P C N ops ({ dst := some d, op := .unOp .not t x, type := ty, pos := pos, after := af, guard := none } :: rest) S K := by
  simp only [awpOps, awpOp, hx]
  exact ⟨hd, h⟩
theorem n_build {t : TypeId} {n : Nat} {ps : Array (Nat × Operand)} (hd : d < N) {e : TypeId} {sz : Nat} {xs : List D} (he : elemT P t = some e) (hz : (zeroOf P e).isSome = true) (hs : szOf P e = sz) (h0 : 0 < sz) (hi : ps.toList.map (·.1) = List.range n) (hn : n * sz ≤ 16777216) (hxs : (ps.toList.map fun p => toD (S.eval p.2)) = xs) (hall : (xs.all fun x => x.known && x.cells.length == sz) = true)
    (h : awpOps P C N ops rest (S.put d (.d (.sl true xs))) K) : awpOps P C N ops ({ dst := some d, op := .buildSlice t n ps, type := ty, pos := pos, after := af, guard := none } :: rest) S K := by
  subst hs hxs
  simp only [awpOps, awpOp, he]
  exact ⟨hz, h0, hi, hn, hall, hd, h⟩
theorem n_make {t : TypeId} {l c : Operand} (hd : d < N) {e : TypeId} {sz by_ : Nat} {z : Value} {n : Int} (hl : S.eval l = .d (.val (.int .i64 n))) (hc : S.eval c = .d (.val (.int .i64 n))) (he : elemT P t = some e) (hz : zeroOf P e = some z) (hs : szOf P e = sz) (hb : bytesOf P e = by_) (h0 : 0 < sz) (h1 : z.cells.size = sz) (h2 : (ofV z).known = true) (h3 : (ofV z).cells.length = sz) (h4 : 0 ≤ n) (h5 : n ≤ 9223372036854775807) (h6 : by_ * n ≤ 140737488355328)
    (h : awpOps P C N ops rest (S.put d (.d (.sl true (List.replicate n.toNat (ofV z))))) K) : awpOps P C N ops ({ dst := some d, op := .makeSlice t l c, type := ty, pos := pos, after := af, guard := none } :: rest) S K := by
  subst hs hb
  simp only [awpOps, awpOp, he, hl, hc]
  exact ⟨trivial, z, hz, h0, h1, h2, h3, h4, h5, h6, hd, h⟩
theorem n_len {as_ : Array Operand} {ts : Array TypeId} (hd : d < N) {t : TypeId} {x : Operand} {ex : Bool} {xs : List D} (ht : ts[0]? = some t) (hx : as_[0]? = some x) (hv : S.eval x = .d (.sl ex xs)) (he : (elemT P t).isSome = true) {n : Nat} (hn : xs.length = n) (h : (n : Int) ≤ 9223372036854775807 → awpOps P C N ops rest (S.put d (.d (.val (.int .i64 n)))) K) : awpOps P C N ops ({ dst := some d, op := .call { callee := .builtin .len, args := as_, argTypes := ts }, type := ty, pos := pos, after := af, guard := none } :: rest) S K := by
  subst hn
  simp only [awpOps, awpOp, awpBuiltin, ht, hx, Option.map_some, hv]
  exact ⟨he, fun hle => ⟨hd, h hle⟩⟩
theorem n_loadVal {t : TypeId} {p : Operand} (hd : d < N) {y : D} (ht : rowT P t = some false) (hp : S.eval p = .eptr y) (hy : y.cells = [y]) (h : awpOps P C N ops rest (S.put d (.d y)) K) : awpOps P C N ops ({ dst := some d, op := .load t p, type := ty, pos := pos, after := af, guard := none } :: rest) S K := by
  cases y <;> (simp only [awpOps, awpOp, awpLoad, ht, hp]; exact ⟨hy, hd, h⟩)
theorem n_index {t : TypeId} {x ix : Operand} (hd : d < N) {e : TypeId} {ex : Bool} {xs : List D} {k : IntKind} {n : Int} {sz : Nat} {y : D} (ht : P.underlying t = some (.slice e)) (hx : S.eval x = .d (.sl ex xs)) (hi : S.eval ix = .d (.val (.int k n))) (h0 : 0 ≤ n) (hn : n < xs.length) (hs : szOf P e = sz) (hsz : 0 < sz) (hw : Wide sz xs) (hy : xs.getD n.toNat .any = y) (h : awpOps P C N ops rest (S.put d (.eptr y)) K) : awpOps P C N ops ({ dst := some d, op := .indexAddr t x ix, type := ty, pos := pos, after := af, guard := none } :: rest) S K := by
  subst hs hy
  simp only [awpOps, awpOp, awpIndex, ht, hx, hi]
  exact ⟨h0, hn, hw, hsz, hd, h⟩
theorem n_slice {t : TypeId} {x : Operand} {lo hi mx : Option Operand} (hd : d < N) {e : TypeId} {ex ex' : Bool} {xs ys : List D} {l q sz : Nat} (he : elemT P t = some e) (hx : S.eval x = .d (.sl ex xs)) (hl : bound S 0 lo = some (l : Int)) (hq : bound S xs.length hi = some (q : Int)) (hm : mx.isSome = true → hi.isSome = true ∧ bound S 0 mx = some (q : Int)) (h1 : l ≤ q) (h2 : q ≤ xs.length) (hs : szOf P e = sz) (h0 : 0 < sz) (hw : Wide sz xs) (hex : (mx.isSome || (ex && q == xs.length)) = ex') (hy : (xs.take q).drop l = ys) (h : awpOps P C N ops rest (S.put d (.d (.sl ex' ys))) K) : awpOps P C N ops ({ dst := some d, op := .slice t x lo hi mx, type := ty, pos := pos, after := af, guard := none } :: rest) S K := by
  subst hs hy hex
  simp only [awpOps, awpOp, he, hx]
  exact ⟨l, q, hl, hq, hm, h1, h2, h0, hw, hd, h⟩
theorem n_append {t : TypeId} {x y : Operand} (hd : d < N) {e : TypeId} {ex : Bool} {xs ys : List D} {z : Value} {sz by_ : Nat} (he : elemT P t = some e) (hz : zeroOf P e = some z) (hx : S.eval x = .d (.sl true xs)) (hy : S.eval y = .d (.sl ex ys)) (hs : szOf P e = sz) (hb : bytesOf P e = by_) (h0 : 0 < sz) (w1 : Wide sz xs) (w2 : Wide sz ys) (o1 : Ones xs) (o2 : Ones ys) (hp : 0 < ys.length) (h63 : ((xs.length + ys.length : Nat) : Int) ≤ 9223372036854775807) (hfit : Builtin.nextslicecap (xs.length + ys.length) xs.length * by_ ≤ 281474976710656)
    (h : awpOps P C N ops rest (S.put d (.d (.sl false (xs ++ ys)))) K) : awpOps P C N ops ({ dst := some d, op := .call { callee := .builtin .append, args := #[x, y], argTypes := #[t, t] }, type := ty, pos := pos, after := af, guard := none } :: rest) S K := by
  subst hs hb
  simp only [awpOps, awpOp, awpBuiltin]
  exact ⟨x, y, t, e, z, xs, ex, ys, rfl, rfl, he, hz, hx, hy, h0, w1, w2, o1, o2, hp, h63, hfit, hd, h⟩
end
section
variable {P : Program} {Γ : World → Prop} {N : Nat} {ops : Array Oper} {S : St} {K : St → Prop} {rest : List Oper} {d : Nat} {ty : TypeId} {pos : String} {af : Array Edge} {f : FuncId} {ts : Array TypeId} {r : T}
theorem n_call0 (hd : d < N) (hC : Spec P Γ f ([].map T.d) r) (h : awpOps P (Spec P Γ) N ops rest (S.put d r) K) : awpOps P (Spec P Γ) N ops ({ dst := some d, op := .call { callee := .value (.func f), args := #[], argTypes := ts }, type := ty, pos := pos, after := af, guard := none } :: rest) S K := by
  simp only [awpOps, awpOp]
  exact ⟨r, hC, hd, h⟩
theorem n_call1 {a1 : Operand} {d1 : D} (hd : d < N) (h1 : S.eval a1 = .d d1) (hC : Spec P Γ f ([d1].map T.d) r) (h : awpOps P (Spec P Γ) N ops rest (S.put d r) K) : awpOps P (Spec P Γ) N ops ({ dst := some d, op := .call { callee := .value (.func f), args := #[a1], argTypes := ts }, type := ty, pos := pos, after := af, guard := none } :: rest) S K := by
  simp only [awpOps, awpOp]
  exact ⟨r, by simpa [h1] using hC, hd, h⟩
theorem n_call2 {a1 a2 : Operand} {d1 d2 : D} (hd : d < N) (h1 : S.eval a1 = .d d1) (h2 : S.eval a2 = .d d2) (hC : Spec P Γ f ([d1, d2].map T.d) r) (h : awpOps P (Spec P Γ) N ops rest (S.put d r) K) : awpOps P (Spec P Γ) N ops ({ dst := some d, op := .call { callee := .value (.func f), args := #[a1, a2], argTypes := ts }, type := ty, pos := pos, after := af, guard := none } :: rest) S K := by
  simp only [awpOps, awpOp]
  exact ⟨r, by simpa [h1, h2] using hC, hd, h⟩
theorem n_call3 {a1 a2 a3 : Operand} {d1 d2 d3 : D} (hd : d < N) (h1 : S.eval a1 = .d d1) (h2 : S.eval a2 = .d d2) (h3 : S.eval a3 = .d d3) (hC : Spec P Γ f ([d1, d2, d3].map T.d) r) (h : awpOps P (Spec P Γ) N ops rest (S.put d r) K) : awpOps P (Spec P Γ) N ops ({ dst := some d, op := .call { callee := .value (.func f), args := #[a1, a2, a3], argTypes := ts }, type := ty, pos := pos, after := af, guard := none } :: rest) S K := by
  simp only [awpOps, awpOp]
  exact ⟨r, by simpa [h1, h2, h3] using hC, hd, h⟩
end
end Go.Proofs.YtijebgceopddmaaDoor.Ax
end
section
set_option linter.unusedVariables false
namespace Go.Proofs.YtijebgceopddmaaDoor.Ax
theorem ty_b43 : bytesOf Tryd.prog 43 = 24 := by kernel_rfl
theorem ty_e22 : elemT Tryd.prog 22 = some 43 := by kernel_rfl
theorem ty_e29 : elemT Tryd.prog 29 = some 3 := by kernel_rfl
theorem ty_e43 : elemT Tryd.prog 43 = some 5 := by kernel_rfl
theorem ty_ei22 : (elemT Tryd.prog 22).isSome = true := by kernel_rfl
theorem ty_ei43 : (elemT Tryd.prog 43).isSome = true := by kernel_rfl
theorem ty_r5 : rowT Tryd.prog 5 = some false := by kernel_rfl
theorem ty_s3 : szOf Tryd.prog 3 = 1 := by kernel_rfl
theorem ty_s43 : szOf Tryd.prog 43 = 1 := by kernel_rfl
theorem ty_s5 : szOf Tryd.prog 5 = 1 := by kernel_rfl
theorem ty_u4 : Tryd.prog.underlying 4 = some (.bool) := by kernel_rfl
theorem ty_u43 : Tryd.prog.underlying 43 = some (.slice 5) := by kernel_rfl
theorem ty_z43 : zeroOf Tryd.prog 43 = some (.slice none 0 0) := by kernel_rfl
theorem ty_zs3 : (zeroOf Tryd.prog 3).isSome = true := by kernel_rfl
theorem ty_zs43 : (zeroOf Tryd.prog 43).isSome = true := by kernel_rfl
theorem ty_zs5 : (zeroOf Tryd.prog 5).isSome = true := by kernel_rfl
end Go.Proofs.YtijebgceopddmaaDoor.Ax
end
section
set_option linter.unusedVariables false
set_option maxRecDepth 100000
namespace Go.Proofs.YtijebgceopddmaaDoor.Ax
open Go.RowKit Go.Proofs.YtijebgceopddmaaDoorW.PrintWords Go.Proofs.YtijebgceopddmaaDoor.Gf Go.Proofs.YtijebgceopddmaaDoor.Pa
theorem ev_0 : matrix_Product.f 400 [[1, 2]] [[3], [4]] = some ([[11]], 0) := by kernel_rfl
theorem ev_1 : matrix_Reduce.f 400 [[0, 2, 4], [0, 1, 2], [1, 0, 1]] = some ([[1, 0, 1], [0, 1, 2]], [0, 1], 0) := by kernel_rfl
theorem ev_2 : matrix_Solve.f 400 [[1, 0, 1], [0, 1, 2]] [5, 6] = some ([5, 6, 0], [[1, 2, 1]], 0) := by kernel_rfl
theorem ev_3 : matrix_Solve.f 400 [[1, 1], [1, 1]] [1, 2] = some ([], [], 8) := by kernel_rfl
theorem ev_4 : matrix_Inverse.f 400 [[1, 1], [0, 1]] = some ([[1, 1], [0, 1]], 0) := by kernel_rfl
theorem ev_5 : matrix_Inverse.f 400 [[1, 1], [1, 1]] = some ([], 8) := by kernel_rfl
theorem ev_6 : matrix_Express.f 400 [[1, 1, 0], [1, 1, 0], [0, 1, 1]] [1, 0, 1] = some ([1, 0, 1], 0) := by kernel_rfl
theorem ev_7 : matrix_Express.f 400 [] [0, 0] = some ([], 0) := by kernel_rfl
theorem ev_8 : matrix_Express.f 400 [] [0, 1] = some ([], 8) := by kernel_rfl
theorem ev_9 : matrix_Transpose.f 400 [[1, 2, 3]] = some ([[1], [2], [3]], 0) := by kernel_rfl
theorem ev_10 : matrix_Rank.f 400 [[1, 2], [2, 4], [0, 0]] = some (1, 0) := by kernel_rfl
theorem ev_11 : matrix_Check.f 400 [[1], []] = some 1 := by kernel_rfl
theorem ev_12 : matrix_Check.f 400 (List.replicate 49 []) = some 2 := by kernel_rfl
theorem ev_13 : quietusref05_Same.f 400 [[11]] [[11]] = some true := by kernel_rfl
theorem ev_14 : quietusref05_Same.f 400 [[1, 0, 1], [0, 1, 2]] [[1, 0, 1], [0, 1, 2]] = some true := by kernel_rfl
theorem ev_15 : quietusref05_SameList.f 400 [0, 1] [0, 1] = some true := by kernel_rfl
theorem ev_16 : quietusref05_SameRow.f 400 [5, 6, 0] [5, 6, 0] = some true := by kernel_rfl
theorem ev_17 : quietusref05_Same.f 400 [[1, 2, 1]] [[1, 2, 1]] = some true := by kernel_rfl
theorem ev_18 : quietusref05_Same.f 400 [[1, 1], [0, 1]] [[1, 1], [0, 1]] = some true := by kernel_rfl
theorem ev_19 : quietusref05_SameRow.f 400 [1, 0, 1] [1, 0, 1] = some true := by kernel_rfl
theorem ev_20 : quietusref05_Same.f 400 [[1], [2], [3]] [[1], [2], [3]] = some true := by kernel_rfl
set_option maxHeartbeats 4000000 in
theorem sp11 : Spec Tryd.prog HighIn 11 ([].map T.d) (.d (.val (.bool true))) := by
  refine spec_of Tryd.func11 rfl (by kernel_rfl) gamOk (fun _ _ _ h => h) [] (by decide) _ rfl ?_
  show awp _ _ 229 _ _ _
  refine a_seq_region ?_
  refine n_assign (by decide) (v := .d (.val (.bool false))) rfl ?_
  refine n_nil ?_
  refine a_seq_region ?_
  refine n_build (by decide) (xs := [.val (.int .u8 1), .val (.int .u8 2)]) ty_e43 ty_zs5 ty_s5 (by decide) rfl (by decide) rfl (by first | rfl | simp [D.known, D.cells]) ?_
  refine n_build (by decide) (xs := [.sl true [.val (.int .u8 1), .val (.int .u8 2)]]) ty_e22 ty_zs43 ty_s43 (by decide) rfl (by decide) rfl (by first | rfl | simp [D.known, D.cells]) ?_
  refine n_build (by decide) (xs := [.val (.int .u8 3)]) ty_e43 ty_zs5 ty_s5 (by decide) rfl (by decide) rfl (by first | rfl | simp [D.known, D.cells]) ?_
  refine n_build (by decide) (xs := [.val (.int .u8 4)]) ty_e43 ty_zs5 ty_s5 (by decide) rfl (by decide) rfl (by first | rfl | simp [D.known, D.cells]) ?_
  refine n_build (by decide) (xs := [.sl true [.val (.int .u8 3)], .sl true [.val (.int .u8 4)]]) ty_e22 ty_zs43 ty_s43 (by decide) rfl (by decide) rfl (by first | rfl | simp [D.known, D.cells]) ?_
  refine n_call2 (by decide) rfl rfl (r := .tup [(gridD .u8 [[11]]), .val (.int .i64 0)]) (spec_er (es := [gridD .u8 [[1, 2]], gridD .u8 [[3], [4]]]) (by simp [er_sl, er_val, er_nilV, er_gridD, er_rowD, gridD, rowD, iD]) (sp28 ev_0)) ?_
  refine n_move (by decide) (v := .tup [(gridD .u8 [[11]]), .val (.int .i64 0)]) rfl ?_
  refine n_extract (by decide) (t := (gridD .u8 [[11]])) rfl rfl ?_
  refine n_extract (by decide) (t := .val (.int .i64 0)) rfl rfl ?_
  refine n_assign (by decide) (v := .d ((gridD .u8 [[11]]))) rfl ?_
  refine n_assign (by decide) (v := .d (.val (.int .i64 0))) rfl ?_
  refine n_nil ?_
  refine a_seq_region ?_
  refine n_build (by decide) (xs := [.val (.int .u8 0), .val (.int .u8 2), .val (.int .u8 4)]) ty_e43 ty_zs5 ty_s5 (by decide) rfl (by decide) rfl (by first | rfl | simp [D.known, D.cells]) ?_
  refine n_build (by decide) (xs := [.val (.int .u8 0), .val (.int .u8 1), .val (.int .u8 2)]) ty_e43 ty_zs5 ty_s5 (by decide) rfl (by decide) rfl (by first | rfl | simp [D.known, D.cells]) ?_
  refine n_build (by decide) (xs := [.val (.int .u8 1), .val (.int .u8 0), .val (.int .u8 1)]) ty_e43 ty_zs5 ty_s5 (by decide) rfl (by decide) rfl (by first | rfl | simp [D.known, D.cells]) ?_
  refine n_build (by decide) (xs := [.sl true [.val (.int .u8 0), .val (.int .u8 2), .val (.int .u8 4)], .sl true [.val (.int .u8 0), .val (.int .u8 1), .val (.int .u8 2)], .sl true [.val (.int .u8 1), .val (.int .u8 0), .val (.int .u8 1)]]) ty_e22 ty_zs43 ty_s43 (by decide) rfl (by decide) rfl (by first | rfl | simp [D.known, D.cells]) ?_
  refine n_call1 (by decide) rfl (r := .tup [(gridD .u8 [[1, 0, 1], [0, 1, 2]]), (rowD .i64 [0, 1]), .val (.int .i64 0)]) (spec_er (es := [gridD .u8 [[0, 2, 4], [0, 1, 2], [1, 0, 1]]]) (by simp [er_sl, er_val, er_nilV, er_gridD, er_rowD, gridD, rowD, iD]) (sp14 ev_1)) ?_
  refine n_move (by decide) (v := .tup [(gridD .u8 [[1, 0, 1], [0, 1, 2]]), (rowD .i64 [0, 1]), .val (.int .i64 0)]) rfl ?_
  refine n_extract (by decide) (t := (gridD .u8 [[1, 0, 1], [0, 1, 2]])) rfl rfl ?_
  refine n_extract (by decide) (t := (rowD .i64 [0, 1])) rfl rfl ?_
  refine n_extract (by decide) (t := .val (.int .i64 0)) rfl rfl ?_
  refine n_assign (by decide) (v := .d ((gridD .u8 [[1, 0, 1], [0, 1, 2]]))) rfl ?_
  refine n_assign (by decide) (v := .d ((rowD .i64 [0, 1]))) rfl ?_
  refine n_assign (by decide) (v := .d (.val (.int .i64 0))) rfl ?_
  refine n_nil ?_
  refine a_seq_region ?_
  refine n_build (by decide) (xs := [.val (.int .u8 1), .val (.int .u8 0), .val (.int .u8 1)]) ty_e43 ty_zs5 ty_s5 (by decide) rfl (by decide) rfl (by first | rfl | simp [D.known, D.cells]) ?_
  refine n_build (by decide) (xs := [.val (.int .u8 0), .val (.int .u8 1), .val (.int .u8 2)]) ty_e43 ty_zs5 ty_s5 (by decide) rfl (by decide) rfl (by first | rfl | simp [D.known, D.cells]) ?_
  refine n_build (by decide) (xs := [.sl true [.val (.int .u8 1), .val (.int .u8 0), .val (.int .u8 1)], .sl true [.val (.int .u8 0), .val (.int .u8 1), .val (.int .u8 2)]]) ty_e22 ty_zs43 ty_s43 (by decide) rfl (by decide) rfl (by first | rfl | simp [D.known, D.cells]) ?_
  refine n_build (by decide) (xs := [.val (.int .u8 5), .val (.int .u8 6)]) ty_e43 ty_zs5 ty_s5 (by decide) rfl (by decide) rfl (by first | rfl | simp [D.known, D.cells]) ?_
  refine n_call2 (by decide) rfl rfl (r := .tup [(rowD .u8 [5, 6, 0]), (gridD .u8 [[1, 2, 1]]), .val (.int .i64 0)]) (spec_er (es := [gridD .u8 [[1, 0, 1], [0, 1, 2]], rowD .u8 [5, 6]]) (by simp [er_sl, er_val, er_nilV, er_gridD, er_rowD, gridD, rowD, iD]) (sp21 ev_2)) ?_
  refine n_move (by decide) (v := .tup [(rowD .u8 [5, 6, 0]), (gridD .u8 [[1, 2, 1]]), .val (.int .i64 0)]) rfl ?_
  refine n_extract (by decide) (t := (rowD .u8 [5, 6, 0])) rfl rfl ?_
  refine n_extract (by decide) (t := (gridD .u8 [[1, 2, 1]])) rfl rfl ?_
  refine n_extract (by decide) (t := .val (.int .i64 0)) rfl rfl ?_
  refine n_assign (by decide) (v := .d ((rowD .u8 [5, 6, 0]))) rfl ?_
  refine n_assign (by decide) (v := .d ((gridD .u8 [[1, 2, 1]]))) rfl ?_
  refine n_assign (by decide) (v := .d (.val (.int .i64 0))) rfl ?_
  refine n_nil ?_
  refine a_seq_region ?_
  refine n_build (by decide) (xs := [.val (.int .u8 1), .val (.int .u8 1)]) ty_e43 ty_zs5 ty_s5 (by decide) rfl (by decide) rfl (by first | rfl | simp [D.known, D.cells]) ?_
  refine n_build (by decide) (xs := [.val (.int .u8 1), .val (.int .u8 1)]) ty_e43 ty_zs5 ty_s5 (by decide) rfl (by decide) rfl (by first | rfl | simp [D.known, D.cells]) ?_
  refine n_build (by decide) (xs := [.sl true [.val (.int .u8 1), .val (.int .u8 1)], .sl true [.val (.int .u8 1), .val (.int .u8 1)]]) ty_e22 ty_zs43 ty_s43 (by decide) rfl (by decide) rfl (by first | rfl | simp [D.known, D.cells]) ?_
  refine n_build (by decide) (xs := [.val (.int .u8 1), .val (.int .u8 2)]) ty_e43 ty_zs5 ty_s5 (by decide) rfl (by decide) rfl (by first | rfl | simp [D.known, D.cells]) ?_
  refine n_call2 (by decide) rfl rfl (r := .tup [(rowD .u8 []), (gridD .u8 []), .val (.int .i64 8)]) (spec_er (es := [gridD .u8 [[1, 1], [1, 1]], rowD .u8 [1, 2]]) (by simp [er_sl, er_val, er_nilV, er_gridD, er_rowD, gridD, rowD, iD]) (sp21 ev_3)) ?_
  refine n_move (by decide) (v := .tup [(rowD .u8 []), (gridD .u8 []), .val (.int .i64 8)]) rfl ?_
  refine n_extract (by decide) (t := (rowD .u8 [])) rfl rfl ?_
  refine n_extract (by decide) (t := (gridD .u8 [])) rfl rfl ?_
  refine n_extract (by decide) (t := .val (.int .i64 8)) rfl rfl ?_
  refine n_assign (by decide) (v := .d ((rowD .u8 []))) rfl ?_
  refine n_assign (by decide) (v := .d ((gridD .u8 []))) rfl ?_
  refine n_assign (by decide) (v := .d (.val (.int .i64 8))) rfl ?_
  refine n_nil ?_
  refine a_seq_region ?_
  refine n_build (by decide) (xs := [.val (.int .u8 1), .val (.int .u8 1)]) ty_e43 ty_zs5 ty_s5 (by decide) rfl (by decide) rfl (by first | rfl | simp [D.known, D.cells]) ?_
  refine n_build (by decide) (xs := [.val (.int .u8 0), .val (.int .u8 1)]) ty_e43 ty_zs5 ty_s5 (by decide) rfl (by decide) rfl (by first | rfl | simp [D.known, D.cells]) ?_
  refine n_build (by decide) (xs := [.sl true [.val (.int .u8 1), .val (.int .u8 1)], .sl true [.val (.int .u8 0), .val (.int .u8 1)]]) ty_e22 ty_zs43 ty_s43 (by decide) rfl (by decide) rfl (by first | rfl | simp [D.known, D.cells]) ?_
  refine n_call1 (by decide) rfl (r := .tup [(gridD .u8 [[1, 1], [0, 1]]), .val (.int .i64 0)]) (spec_er (es := [gridD .u8 [[1, 1], [0, 1]]]) (by simp [er_sl, er_val, er_nilV, er_gridD, er_rowD, gridD, rowD, iD]) (sp23 ev_4)) ?_
  refine n_move (by decide) (v := .tup [(gridD .u8 [[1, 1], [0, 1]]), .val (.int .i64 0)]) rfl ?_
  refine n_extract (by decide) (t := (gridD .u8 [[1, 1], [0, 1]])) rfl rfl ?_
  refine n_extract (by decide) (t := .val (.int .i64 0)) rfl rfl ?_
  refine n_assign (by decide) (v := .d ((gridD .u8 [[1, 1], [0, 1]]))) rfl ?_
  refine n_assign (by decide) (v := .d (.val (.int .i64 0))) rfl ?_
  refine n_nil ?_
  refine a_seq_region ?_
  refine n_build (by decide) (xs := [.val (.int .u8 1), .val (.int .u8 1)]) ty_e43 ty_zs5 ty_s5 (by decide) rfl (by decide) rfl (by first | rfl | simp [D.known, D.cells]) ?_
  refine n_build (by decide) (xs := [.val (.int .u8 1), .val (.int .u8 1)]) ty_e43 ty_zs5 ty_s5 (by decide) rfl (by decide) rfl (by first | rfl | simp [D.known, D.cells]) ?_
  refine n_build (by decide) (xs := [.sl true [.val (.int .u8 1), .val (.int .u8 1)], .sl true [.val (.int .u8 1), .val (.int .u8 1)]]) ty_e22 ty_zs43 ty_s43 (by decide) rfl (by decide) rfl (by first | rfl | simp [D.known, D.cells]) ?_
  refine n_call1 (by decide) rfl (r := .tup [(gridD .u8 []), .val (.int .i64 8)]) (spec_er (es := [gridD .u8 [[1, 1], [1, 1]]]) (by simp [er_sl, er_val, er_nilV, er_gridD, er_rowD, gridD, rowD, iD]) (sp23 ev_5)) ?_
  refine n_move (by decide) (v := .tup [(gridD .u8 []), .val (.int .i64 8)]) rfl ?_
  refine n_extract (by decide) (t := (gridD .u8 [])) rfl rfl ?_
  refine n_extract (by decide) (t := .val (.int .i64 8)) rfl rfl ?_
  refine n_assign (by decide) (v := .d ((gridD .u8 []))) rfl ?_
  refine n_assign (by decide) (v := .d (.val (.int .i64 8))) rfl ?_
  refine n_nil ?_
  refine a_seq_region ?_
  refine n_build (by decide) (xs := [.val (.int .u8 1), .val (.int .u8 1), .val (.int .u8 0)]) ty_e43 ty_zs5 ty_s5 (by decide) rfl (by decide) rfl (by first | rfl | simp [D.known, D.cells]) ?_
  refine n_build (by decide) (xs := [.val (.int .u8 1), .val (.int .u8 1), .val (.int .u8 0)]) ty_e43 ty_zs5 ty_s5 (by decide) rfl (by decide) rfl (by first | rfl | simp [D.known, D.cells]) ?_
  refine n_build (by decide) (xs := [.val (.int .u8 0), .val (.int .u8 1), .val (.int .u8 1)]) ty_e43 ty_zs5 ty_s5 (by decide) rfl (by decide) rfl (by first | rfl | simp [D.known, D.cells]) ?_
  refine n_build (by decide) (xs := [.sl true [.val (.int .u8 1), .val (.int .u8 1), .val (.int .u8 0)], .sl true [.val (.int .u8 1), .val (.int .u8 1), .val (.int .u8 0)], .sl true [.val (.int .u8 0), .val (.int .u8 1), .val (.int .u8 1)]]) ty_e22 ty_zs43 ty_s43 (by decide) rfl (by decide) rfl (by first | rfl | simp [D.known, D.cells]) ?_
  refine n_build (by decide) (xs := [.val (.int .u8 1), .val (.int .u8 0), .val (.int .u8 1)]) ty_e43 ty_zs5 ty_s5 (by decide) rfl (by decide) rfl (by first | rfl | simp [D.known, D.cells]) ?_
  refine n_call2 (by decide) rfl rfl (r := .tup [(rowD .u8 [1, 0, 1]), .val (.int .i64 0)]) (spec_er (es := [gridD .u8 [[1, 1, 0], [1, 1, 0], [0, 1, 1]], rowD .u8 [1, 0, 1]]) (by simp [er_sl, er_val, er_nilV, er_gridD, er_rowD, gridD, rowD, iD]) (sp25 ev_6)) ?_
  refine n_move (by decide) (v := .tup [(rowD .u8 [1, 0, 1]), .val (.int .i64 0)]) rfl ?_
  refine n_extract (by decide) (t := (rowD .u8 [1, 0, 1])) rfl rfl ?_
  refine n_extract (by decide) (t := .val (.int .i64 0)) rfl rfl ?_
  refine n_assign (by decide) (v := .d ((rowD .u8 [1, 0, 1]))) rfl ?_
  refine n_assign (by decide) (v := .d (.val (.int .i64 0))) rfl ?_
  refine n_nil ?_
  refine a_seq_region ?_
  refine n_build (by decide) (xs := [.val (.int .u8 0), .val (.int .u8 0)]) ty_e43 ty_zs5 ty_s5 (by decide) rfl (by decide) rfl (by first | rfl | simp [D.known, D.cells]) ?_
  refine n_call2 (by decide) rfl rfl (r := .tup [(rowD .u8 []), .val (.int .i64 0)]) (spec_er (es := [gridD .u8 [], rowD .u8 [0, 0]]) (by simp [er_sl, er_val, er_nilV, er_gridD, er_rowD, gridD, rowD, iD]) (sp25 ev_7)) ?_
  refine n_move (by decide) (v := .tup [(rowD .u8 []), .val (.int .i64 0)]) rfl ?_
  refine n_extract (by decide) (t := (rowD .u8 [])) rfl rfl ?_
  refine n_extract (by decide) (t := .val (.int .i64 0)) rfl rfl ?_
  refine n_assign (by decide) (v := .d ((rowD .u8 []))) rfl ?_
  refine n_assign (by decide) (v := .d (.val (.int .i64 0))) rfl ?_
  refine n_nil ?_
  refine a_seq_region ?_
  refine n_build (by decide) (xs := [.val (.int .u8 0), .val (.int .u8 1)]) ty_e43 ty_zs5 ty_s5 (by decide) rfl (by decide) rfl (by first | rfl | simp [D.known, D.cells]) ?_
  refine n_call2 (by decide) rfl rfl (r := .tup [(rowD .u8 []), .val (.int .i64 8)]) (spec_er (es := [gridD .u8 [], rowD .u8 [0, 1]]) (by simp [er_sl, er_val, er_nilV, er_gridD, er_rowD, gridD, rowD, iD]) (sp25 ev_8)) ?_
  refine n_move (by decide) (v := .tup [(rowD .u8 []), .val (.int .i64 8)]) rfl ?_
  refine n_extract (by decide) (t := (rowD .u8 [])) rfl rfl ?_
  refine n_extract (by decide) (t := .val (.int .i64 8)) rfl rfl ?_
  refine n_assign (by decide) (v := .d ((rowD .u8 []))) rfl ?_
  refine n_assign (by decide) (v := .d (.val (.int .i64 8))) rfl ?_
  refine n_nil ?_
  refine a_seq_region ?_
  refine n_build (by decide) (xs := [.val (.int .u8 1), .val (.int .u8 2), .val (.int .u8 3)]) ty_e43 ty_zs5 ty_s5 (by decide) rfl (by decide) rfl (by first | rfl | simp [D.known, D.cells]) ?_
  refine n_build (by decide) (xs := [.sl true [.val (.int .u8 1), .val (.int .u8 2), .val (.int .u8 3)]]) ty_e22 ty_zs43 ty_s43 (by decide) rfl (by decide) rfl (by first | rfl | simp [D.known, D.cells]) ?_
  refine n_call1 (by decide) rfl (r := .tup [(gridD .u8 [[1], [2], [3]]), .val (.int .i64 0)]) (spec_er (es := [gridD .u8 [[1, 2, 3]]]) (by simp [er_sl, er_val, er_nilV, er_gridD, er_rowD, gridD, rowD, iD]) (sp13 ev_9)) ?_
  refine n_move (by decide) (v := .tup [(gridD .u8 [[1], [2], [3]]), .val (.int .i64 0)]) rfl ?_
  refine n_extract (by decide) (t := (gridD .u8 [[1], [2], [3]])) rfl rfl ?_
  refine n_extract (by decide) (t := .val (.int .i64 0)) rfl rfl ?_
  refine n_assign (by decide) (v := .d ((gridD .u8 [[1], [2], [3]]))) rfl ?_
  refine n_assign (by decide) (v := .d (.val (.int .i64 0))) rfl ?_
  refine n_nil ?_
  refine a_seq_region ?_
  refine n_build (by decide) (xs := [.val (.int .u8 1), .val (.int .u8 2)]) ty_e43 ty_zs5 ty_s5 (by decide) rfl (by decide) rfl (by first | rfl | simp [D.known, D.cells]) ?_
  refine n_build (by decide) (xs := [.val (.int .u8 2), .val (.int .u8 4)]) ty_e43 ty_zs5 ty_s5 (by decide) rfl (by decide) rfl (by first | rfl | simp [D.known, D.cells]) ?_
  refine n_build (by decide) (xs := [.val (.int .u8 0), .val (.int .u8 0)]) ty_e43 ty_zs5 ty_s5 (by decide) rfl (by decide) rfl (by first | rfl | simp [D.known, D.cells]) ?_
  refine n_build (by decide) (xs := [.sl true [.val (.int .u8 1), .val (.int .u8 2)], .sl true [.val (.int .u8 2), .val (.int .u8 4)], .sl true [.val (.int .u8 0), .val (.int .u8 0)]]) ty_e22 ty_zs43 ty_s43 (by decide) rfl (by decide) rfl (by first | rfl | simp [D.known, D.cells]) ?_
  refine n_call1 (by decide) rfl (r := .tup [.val (.int .i64 1), .val (.int .i64 0)]) (spec_er (es := [gridD .u8 [[1, 2], [2, 4], [0, 0]]]) (by simp [er_sl, er_val, er_nilV, er_gridD, er_rowD, gridD, rowD, iD]) (sp15 ev_10)) ?_
  refine n_move (by decide) (v := .tup [.val (.int .i64 1), .val (.int .i64 0)]) rfl ?_
  refine n_extract (by decide) (t := .val (.int .i64 1)) rfl rfl ?_
  refine n_extract (by decide) (t := .val (.int .i64 0)) rfl rfl ?_
  refine n_assign (by decide) (v := .d (.val (.int .i64 1))) rfl ?_
  refine n_assign (by decide) (v := .d (.val (.int .i64 0))) rfl ?_
  refine n_nil ?_
  refine a_seq_region ?_
  refine n_move (by decide) (v := .d (.val (.int .i64 0))) rfl ?_
  refine n_int (by decide) (v := (.bool true)) rfl rfl (by first | rfl | decide) ?_
  refine n_move (by decide) (v := .d (.val (.bool true))) rfl ?_
  refine n_on rfl rfl (by decide) rfl ?_
  refine n_move (by decide) (v := .d (.val (.int .i64 0))) rfl ?_
  refine n_on rfl rfl (by decide) rfl ?_
  refine n_int (by decide) (v := (.bool true)) rfl rfl (by first | rfl | decide) ?_
  refine n_pick (by decide) (b := true) rfl (v := .d (.val (.bool true))) rfl ?_
  refine n_move (by decide) (v := .d (.val (.bool true))) rfl ?_
  refine n_on rfl rfl (by decide) rfl ?_
  refine n_move (by decide) (v := .d (.val (.int .i64 0))) rfl ?_
  refine n_on rfl rfl (by decide) rfl ?_
  refine n_int (by decide) (v := (.bool true)) rfl rfl (by first | rfl | decide) ?_
  refine n_pick (by decide) (b := true) rfl (v := .d (.val (.bool true))) rfl ?_
  refine n_move (by decide) (v := .d (.val (.bool true))) rfl ?_
  refine n_on rfl rfl (by decide) rfl ?_
  refine n_move (by decide) (v := .d (.val (.int .i64 0))) rfl ?_
  refine n_on rfl rfl (by decide) rfl ?_
  refine n_int (by decide) (v := (.bool true)) rfl rfl (by first | rfl | decide) ?_
  refine n_pick (by decide) (b := true) rfl (v := .d (.val (.bool true))) rfl ?_
  refine n_move (by decide) (v := .d (.val (.bool true))) rfl ?_
  refine n_on rfl rfl (by decide) rfl ?_
  refine n_move (by decide) (v := .d (.val (.int .i64 0))) rfl ?_
  refine n_on rfl rfl (by decide) rfl ?_
  refine n_int (by decide) (v := (.bool true)) rfl rfl (by first | rfl | decide) ?_
  refine n_pick (by decide) (b := true) rfl (v := .d (.val (.bool true))) rfl ?_
  refine n_move (by decide) (v := .d (.val (.bool true))) rfl ?_
  refine n_on rfl rfl (by decide) rfl ?_
  refine n_move (by decide) (v := .d (.val (.int .i64 0))) rfl ?_
  refine n_on rfl rfl (by decide) rfl ?_
  refine n_int (by decide) (v := (.bool true)) rfl rfl (by first | rfl | decide) ?_
  refine n_pick (by decide) (b := true) rfl (v := .d (.val (.bool true))) rfl ?_
  refine n_move (by decide) (v := .d (.val (.bool true))) rfl ?_
  refine n_on rfl rfl (by decide) rfl ?_
  refine n_move (by decide) (v := .d (.val (.int .i64 0))) rfl ?_
  refine n_on rfl rfl (by decide) rfl ?_
  refine n_int (by decide) (v := (.bool true)) rfl rfl (by first | rfl | decide) ?_
  refine n_pick (by decide) (b := true) rfl (v := .d (.val (.bool true))) rfl ?_
  refine n_move (by decide) (v := .d (.val (.bool true))) rfl ?_
  refine n_on rfl rfl (by decide) rfl ?_
  refine n_move (by decide) (v := .d (.val (.int .i64 0))) rfl ?_
  refine n_on rfl rfl (by decide) rfl ?_
  refine n_int (by decide) (v := (.bool true)) rfl rfl (by first | rfl | decide) ?_
  refine n_pick (by decide) (b := true) rfl (v := .d (.val (.bool true))) rfl ?_
  refine n_assign (by decide) (v := .d (.val (.bool true))) rfl ?_
  refine n_nil ?_
  refine a_seq_region ?_
  refine n_move (by decide) (v := .d (.val (.int .i64 8))) rfl ?_
  refine n_int (by decide) (v := (.bool true)) rfl rfl (by first | rfl | decide) ?_
  refine n_move (by decide) (v := .d (.val (.bool true))) rfl ?_
  refine n_on rfl rfl (by decide) rfl ?_
  refine n_move (by decide) (v := .d (.val (.int .i64 8))) rfl ?_
  refine n_on rfl rfl (by decide) rfl ?_
  refine n_int (by decide) (v := (.bool true)) rfl rfl (by first | rfl | decide) ?_
  refine n_pick (by decide) (b := true) rfl (v := .d (.val (.bool true))) rfl ?_
  refine n_move (by decide) (v := .d (.val (.bool true))) rfl ?_
  refine n_on rfl rfl (by decide) rfl ?_
  refine n_move (by decide) (v := .d (.val (.int .i64 8))) rfl ?_
  refine n_on rfl rfl (by decide) rfl ?_
  refine n_int (by decide) (v := (.bool true)) rfl rfl (by first | rfl | decide) ?_
  refine n_pick (by decide) (b := true) rfl (v := .d (.val (.bool true))) rfl ?_
  refine n_move (by decide) (v := .d (.val (.bool true))) rfl ?_
  refine n_on rfl rfl (by decide) rfl ?_
  refine n_build (by decide) (xs := [.val (.int .u8 1)]) ty_e43 ty_zs5 ty_s5 (by decide) rfl (by decide) rfl (by first | rfl | simp [D.known, D.cells]) ?_
  refine n_on rfl rfl (by decide) rfl ?_
  refine n_build (by decide) (xs := []) ty_e43 ty_zs5 ty_s5 (by decide) rfl (by decide) rfl (by first | rfl | simp [D.known, D.cells]) ?_
  refine n_on rfl rfl (by decide) rfl ?_
  refine n_build (by decide) (xs := [.sl true [.val (.int .u8 1)], .sl true []]) ty_e22 ty_zs43 ty_s43 (by decide) rfl (by decide) rfl (by first | rfl | simp [D.known, D.cells]) ?_
  refine n_on rfl rfl (by decide) rfl ?_
  refine n_call1 (by decide) rfl (r := .d (.val (.int .i64 1))) (spec_er (es := [gridD .u8 [[1], []]]) (by simp [er_sl, er_val, er_nilV, er_gridD, er_rowD, gridD, rowD, iD]) (sp16 ev_11)) ?_
  refine n_on rfl rfl (by decide) rfl ?_
  refine n_int (by decide) (v := (.bool true)) rfl rfl (by first | rfl | decide) ?_
  refine n_pick (by decide) (b := true) rfl (v := .d (.val (.bool true))) rfl ?_
  refine n_move (by decide) (v := .d (.val (.bool true))) rfl ?_
  refine n_on rfl rfl (by decide) rfl ?_
  refine n_make (by decide) (n := 49) rfl rfl ty_e22 ty_z43 ty_s43 ty_b43 (by decide) (by decide) rfl rfl (by decide) (by decide) (by decide) ?_
  refine n_on rfl rfl (by decide) rfl ?_
  refine n_call1 (by decide) rfl (r := .d (.val (.int .i64 2))) (spec_er (es := [gridD .u8 (List.replicate 49 [])]) (by simp [er_sl, er_val, er_nilV, gridD, rowD, iD]) (sp16 ev_12)) ?_
  refine n_on rfl rfl (by decide) rfl ?_
  refine n_int (by decide) (v := (.bool true)) rfl rfl (by first | rfl | decide) ?_
  refine n_pick (by decide) (b := true) rfl (v := .d (.val (.bool true))) rfl ?_
  refine n_assign (by decide) (v := .d (.val (.bool true))) rfl ?_
  refine n_nil ?_
  refine a_seq_region ?_
  refine n_move (by decide) (v := .d ((gridD .u8 [[11]]))) rfl ?_
  refine n_build (by decide) (xs := [.val (.int .u8 11)]) ty_e43 ty_zs5 ty_s5 (by decide) rfl (by decide) rfl (by first | rfl | simp [D.known, D.cells]) ?_
  refine n_build (by decide) (xs := [.sl true [.val (.int .u8 11)]]) ty_e22 ty_zs43 ty_s43 (by decide) rfl (by decide) rfl (by first | rfl | simp [D.known, D.cells]) ?_
  refine n_call2 (by decide) rfl rfl (r := .d (.val (.bool true))) (spec_er (es := [gridD .u8 [[11]], gridD .u8 [[11]]]) (by simp [er_sl, er_val, er_nilV, er_gridD, er_rowD, gridD, rowD, iD]) (sp19 ev_13)) ?_
  refine n_move (by decide) (v := .d (.val (.bool true))) rfl ?_
  refine n_on rfl rfl (by decide) rfl ?_
  refine n_move (by decide) (v := .d ((gridD .u8 [[1, 0, 1], [0, 1, 2]]))) rfl ?_
  refine n_on rfl rfl (by decide) rfl ?_
  refine n_build (by decide) (xs := [.val (.int .u8 1), .val (.int .u8 0), .val (.int .u8 1)]) ty_e43 ty_zs5 ty_s5 (by decide) rfl (by decide) rfl (by first | rfl | simp [D.known, D.cells]) ?_
  refine n_on rfl rfl (by decide) rfl ?_
  refine n_build (by decide) (xs := [.val (.int .u8 0), .val (.int .u8 1), .val (.int .u8 2)]) ty_e43 ty_zs5 ty_s5 (by decide) rfl (by decide) rfl (by first | rfl | simp [D.known, D.cells]) ?_
  refine n_on rfl rfl (by decide) rfl ?_
  refine n_build (by decide) (xs := [.sl true [.val (.int .u8 1), .val (.int .u8 0), .val (.int .u8 1)], .sl true [.val (.int .u8 0), .val (.int .u8 1), .val (.int .u8 2)]]) ty_e22 ty_zs43 ty_s43 (by decide) rfl (by decide) rfl (by first | rfl | simp [D.known, D.cells]) ?_
  refine n_on rfl rfl (by decide) rfl ?_
  refine n_call2 (by decide) rfl rfl (r := .d (.val (.bool true))) (spec_er (es := [gridD .u8 [[1, 0, 1], [0, 1, 2]], gridD .u8 [[1, 0, 1], [0, 1, 2]]]) (by simp [er_sl, er_val, er_nilV, er_gridD, er_rowD, gridD, rowD, iD]) (sp19 ev_14)) ?_
  refine n_pick (by decide) (b := true) rfl (v := .d (.val (.bool true))) rfl ?_
  refine n_move (by decide) (v := .d (.val (.bool true))) rfl ?_
  refine n_on rfl rfl (by decide) rfl ?_
  refine n_move (by decide) (v := .d ((rowD .i64 [0, 1]))) rfl ?_
  refine n_on rfl rfl (by decide) rfl ?_
  refine n_build (by decide) (xs := [.val (.int .i64 0), .val (.int .i64 1)]) ty_e29 ty_zs3 ty_s3 (by decide) rfl (by decide) rfl (by first | rfl | simp [D.known, D.cells]) ?_
  refine n_on rfl rfl (by decide) rfl ?_
  refine n_call2 (by decide) rfl rfl (r := .d (.val (.bool true))) (spec_er (es := [rowD .i64 [0, 1], rowD .i64 [0, 1]]) (by simp [er_sl, er_val, er_nilV, er_gridD, er_rowD, gridD, rowD, iD]) (sp20 ev_15)) ?_
  refine n_pick (by decide) (b := true) rfl (v := .d (.val (.bool true))) rfl ?_
  refine n_move (by decide) (v := .d (.val (.bool true))) rfl ?_
  refine n_on rfl rfl (by decide) rfl ?_
  refine n_move (by decide) (v := .d ((rowD .u8 [5, 6, 0]))) rfl ?_
  refine n_on rfl rfl (by decide) rfl ?_
  refine n_build (by decide) (xs := [.val (.int .u8 5), .val (.int .u8 6), .val (.int .u8 0)]) ty_e43 ty_zs5 ty_s5 (by decide) rfl (by decide) rfl (by first | rfl | simp [D.known, D.cells]) ?_
  refine n_on rfl rfl (by decide) rfl ?_
  refine n_call2 (by decide) rfl rfl (r := .d (.val (.bool true))) (spec_er (es := [rowD .u8 [5, 6, 0], rowD .u8 [5, 6, 0]]) (by simp [er_sl, er_val, er_nilV, er_gridD, er_rowD, gridD, rowD, iD]) (sp27 ev_16)) ?_
  refine n_pick (by decide) (b := true) rfl (v := .d (.val (.bool true))) rfl ?_
  refine n_move (by decide) (v := .d (.val (.bool true))) rfl ?_
  refine n_on rfl rfl (by decide) rfl ?_
  refine n_move (by decide) (v := .d ((gridD .u8 [[1, 2, 1]]))) rfl ?_
  refine n_on rfl rfl (by decide) rfl ?_
  refine n_build (by decide) (xs := [.val (.int .u8 1), .val (.int .u8 2), .val (.int .u8 1)]) ty_e43 ty_zs5 ty_s5 (by decide) rfl (by decide) rfl (by first | rfl | simp [D.known, D.cells]) ?_
  refine n_on rfl rfl (by decide) rfl ?_
  refine n_build (by decide) (xs := [.sl true [.val (.int .u8 1), .val (.int .u8 2), .val (.int .u8 1)]]) ty_e22 ty_zs43 ty_s43 (by decide) rfl (by decide) rfl (by first | rfl | simp [D.known, D.cells]) ?_
  refine n_on rfl rfl (by decide) rfl ?_
  refine n_call2 (by decide) rfl rfl (r := .d (.val (.bool true))) (spec_er (es := [gridD .u8 [[1, 2, 1]], gridD .u8 [[1, 2, 1]]]) (by simp [er_sl, er_val, er_nilV, er_gridD, er_rowD, gridD, rowD, iD]) (sp19 ev_17)) ?_
  refine n_pick (by decide) (b := true) rfl (v := .d (.val (.bool true))) rfl ?_
  refine n_assign (by decide) (v := .d (.val (.bool true))) rfl ?_
  refine n_nil ?_
  refine a_seq_region ?_
  refine n_move (by decide) (v := .d ((gridD .u8 [[1, 1], [0, 1]]))) rfl ?_
  refine n_build (by decide) (xs := [.val (.int .u8 1), .val (.int .u8 1)]) ty_e43 ty_zs5 ty_s5 (by decide) rfl (by decide) rfl (by first | rfl | simp [D.known, D.cells]) ?_
  refine n_build (by decide) (xs := [.val (.int .u8 0), .val (.int .u8 1)]) ty_e43 ty_zs5 ty_s5 (by decide) rfl (by decide) rfl (by first | rfl | simp [D.known, D.cells]) ?_
  refine n_build (by decide) (xs := [.sl true [.val (.int .u8 1), .val (.int .u8 1)], .sl true [.val (.int .u8 0), .val (.int .u8 1)]]) ty_e22 ty_zs43 ty_s43 (by decide) rfl (by decide) rfl (by first | rfl | simp [D.known, D.cells]) ?_
  refine n_call2 (by decide) rfl rfl (r := .d (.val (.bool true))) (spec_er (es := [gridD .u8 [[1, 1], [0, 1]], gridD .u8 [[1, 1], [0, 1]]]) (by simp [er_sl, er_val, er_nilV, er_gridD, er_rowD, gridD, rowD, iD]) (sp19 ev_18)) ?_
  refine n_move (by decide) (v := .d (.val (.bool true))) rfl ?_
  refine n_on rfl rfl (by decide) rfl ?_
  refine n_move (by decide) (v := .d ((rowD .u8 [1, 0, 1]))) rfl ?_
  refine n_on rfl rfl (by decide) rfl ?_
  refine n_build (by decide) (xs := [.val (.int .u8 1), .val (.int .u8 0), .val (.int .u8 1)]) ty_e43 ty_zs5 ty_s5 (by decide) rfl (by decide) rfl (by first | rfl | simp [D.known, D.cells]) ?_
  refine n_on rfl rfl (by decide) rfl ?_
  refine n_call2 (by decide) rfl rfl (r := .d (.val (.bool true))) (spec_er (es := [rowD .u8 [1, 0, 1], rowD .u8 [1, 0, 1]]) (by simp [er_sl, er_val, er_nilV, er_gridD, er_rowD, gridD, rowD, iD]) (sp27 ev_19)) ?_
  refine n_pick (by decide) (b := true) rfl (v := .d (.val (.bool true))) rfl ?_
  refine n_move (by decide) (v := .d (.val (.bool true))) rfl ?_
  refine n_on rfl rfl (by decide) rfl ?_
  refine n_move (by decide) (v := .d ((rowD .u8 []))) rfl ?_
  refine n_on rfl rfl (by decide) rfl ?_
  refine n_len (by decide) (xs := _) rfl rfl rfl ty_ei43 (n := 0) (by simp) (fun hl_204 => ?_)
  refine n_on rfl rfl (by decide) rfl ?_
  refine n_int (by decide) (v := (.bool true)) rfl rfl (by first | rfl | decide) ?_
  refine n_pick (by decide) (b := true) rfl (v := .d (.val (.bool true))) rfl ?_
  refine n_move (by decide) (v := .d (.val (.bool true))) rfl ?_
  refine n_on rfl rfl (by decide) rfl ?_
  refine n_move (by decide) (v := .d ((gridD .u8 [[1], [2], [3]]))) rfl ?_
  refine n_on rfl rfl (by decide) rfl ?_
  refine n_build (by decide) (xs := [.val (.int .u8 1)]) ty_e43 ty_zs5 ty_s5 (by decide) rfl (by decide) rfl (by first | rfl | simp [D.known, D.cells]) ?_
  refine n_on rfl rfl (by decide) rfl ?_
  refine n_build (by decide) (xs := [.val (.int .u8 2)]) ty_e43 ty_zs5 ty_s5 (by decide) rfl (by decide) rfl (by first | rfl | simp [D.known, D.cells]) ?_
  refine n_on rfl rfl (by decide) rfl ?_
  refine n_build (by decide) (xs := [.val (.int .u8 3)]) ty_e43 ty_zs5 ty_s5 (by decide) rfl (by decide) rfl (by first | rfl | simp [D.known, D.cells]) ?_
  refine n_on rfl rfl (by decide) rfl ?_
  refine n_build (by decide) (xs := [.sl true [.val (.int .u8 1)], .sl true [.val (.int .u8 2)], .sl true [.val (.int .u8 3)]]) ty_e22 ty_zs43 ty_s43 (by decide) rfl (by decide) rfl (by first | rfl | simp [D.known, D.cells]) ?_
  refine n_on rfl rfl (by decide) rfl ?_
  refine n_call2 (by decide) rfl rfl (r := .d (.val (.bool true))) (spec_er (es := [gridD .u8 [[1], [2], [3]], gridD .u8 [[1], [2], [3]]]) (by simp [er_sl, er_val, er_nilV, er_gridD, er_rowD, gridD, rowD, iD]) (sp19 ev_20)) ?_
  refine n_pick (by decide) (b := true) rfl (v := .d (.val (.bool true))) rfl ?_
  refine n_move (by decide) (v := .d (.val (.bool true))) rfl ?_
  refine n_on rfl rfl (by decide) rfl ?_
  refine n_move (by decide) (v := .d (.val (.int .i64 1))) rfl ?_
  refine n_on rfl rfl (by decide) rfl ?_
  refine n_int (by decide) (v := (.bool true)) rfl rfl (by first | rfl | decide) ?_
  refine n_pick (by decide) (b := true) rfl (v := .d (.val (.bool true))) rfl ?_
  refine n_assign (by decide) (v := .d (.val (.bool true))) rfl ?_
  refine n_nil ?_
  refine a_seq_region ?_
  refine n_move (by decide) (v := .d (.val (.bool true))) rfl ?_
  refine n_move (by decide) (v := .d (.val (.bool true))) rfl ?_
  refine n_on rfl rfl (by decide) rfl ?_
  refine n_move (by decide) (v := .d (.val (.bool true))) rfl ?_
  refine n_pick (by decide) (b := true) rfl (v := .d (.val (.bool true))) rfl ?_
  refine n_move (by decide) (v := .d (.val (.bool true))) rfl ?_
  refine n_on rfl rfl (by decide) rfl ?_
  refine n_move (by decide) (v := .d (.val (.bool true))) rfl ?_
  refine n_pick (by decide) (b := true) rfl (v := .d (.val (.bool true))) rfl ?_
  refine n_move (by decide) (v := .d (.val (.bool true))) rfl ?_
  refine n_on rfl rfl (by decide) rfl ?_
  refine n_move (by decide) (v := .d (.val (.bool true))) rfl ?_
  refine n_pick (by decide) (b := true) rfl (v := .d (.val (.bool true))) rfl ?_
  refine n_assign (by decide) (v := .d (.val (.bool true))) rfl ?_
  refine n_nil ?_
  exact a_ret ⟨.inr rfl, rfl⟩
end Go.Proofs.YtijebgceopddmaaDoor.Ax
end
section
set_option linter.unusedVariables false
set_option linter.unusedSimpArgs false
namespace Go.Proofs.YtijebgceopddmaaDoor.Ax
open Go.RowKit
section
variable {P : Program} {C : FuncId → List T → T → Prop} {N : Nat} {S : St} {Q : Exit → St → Prop} {x y z c : Code} {i : Nat}
abbrev BQ (P : Program) (C : FuncId → List T → T → Prop) (N i : Nat) (z : Code) (Q : Exit → St → Prop) : Exit → St → Prop := fun e S => match e with
  | .normal => awp P C N z Q S
  | .exit j => if j = i then awp P C N z Q S else Q (.exit j) S
  | e => Q e S
abbrev LQ (P : Program) (C : FuncId → List T → T → Prop) (N : Nat) (I : Nat → St → Prop) (n i : Nat) (z : Code) (Q : Exit → St → Prop) : Exit → St → Prop := fun e S => match e with
  | .normal => ∃ m, m < n ∧ I m S
  | .exit j => if j = i then awp P C N z Q S else Q (.exit j) S
  | e => Q e S
theorem a_seq_block (h : awp P C N c (BQ P C N i z Q) S) : awp P C N (.seq (.block i c) z) Q S := by
  simp only [awp] at h ⊢
  refine Eq.mp ?_ h
  congr 1
  funext e S'
  cases e with
  | exit j => by_cases hj : j = i <;> simp [BQ, hj]
  | _ => rfl
theorem a_seq_loop (I : Nat → St → Prop) (n : Nat) (h0 : I n S) (h : ∀ n S, I n S → awp P C N c (LQ P C N I n i z Q) S) : awp P C N (.seq (.block i (.loop c)) z) Q S := by
  simp only [awp]
  refine ⟨I, n, h0, fun n S hI => ?_⟩
  refine Eq.mp ?_ (h n S hI)
  congr 1
  funext e S'
  cases e with
  | exit j => by_cases hj : j = i <;> simp [LQ, hj]
  | _ => rfl
theorem a_seq_exit (h : Q (.exit i) S) : awp P C N (.seq (.exit i) z) Q S := h
theorem l_exit {I : Nat → St → Prop} {n : Nat} (h : awp P C N z Q S) : LQ P C N I n i z Q (.exit i) S := by
  show (if i = i then _ else _)
  rw [if_pos rfl]; exact h
theorem l_normal {I : Nat → St → Prop} {n : Nat} (m : Nat) (hm : m < n) (h : I m S) : LQ P C N I n i z Q .normal S := ⟨m, hm, h⟩
theorem b_normal (h : awp P C N z Q S) : BQ P C N i z Q .normal S := h
end
section
variable {k : IntKind} {x y : Int}
theorem lssT (h : x < y) : intOp .lss k x y = some (.bool true) := by simp [intOp, h]
theorem lssF (h : ¬ x < y) : intOp .lss k x y = some (.bool false) := by simp [intOp, h]
end
theorem wrap_i64 {x : Int} (h1 : -9223372036854775808 ≤ x) (h2 : x ≤ 9223372036854775807) : IntKind.i64.wrap x = x := by
  unfold IntKind.wrap; simp [IntKind.bits, IntKind.signed]; omega
theorem addC {i : Nat} (h : i < 4611686018427387904) : intOp .add .i64 ((i : Nat) : Int) 1 = some (.int .i64 ((i + 1 : Nat) : Int)) := by
  simp only [intOp]
  rw [wrap_i64 (by omega) (by omega)]; rfl
theorem addI {x y z : Int} (h : x + y = z) (h1 : -9223372036854775808 ≤ z) (h2 : z ≤ 9223372036854775807) : intOp .add .i64 x y = some (.int .i64 z) := by
  subst h
  simp only [intOp]
  rw [wrap_i64 h1 h2]
section
variable {k : IntKind} {xs : List Int} {m : List (List Int)}
theorem wide_row : Wide 1 (xs.map (iD k)) := fun x hx => by
  obtain ⟨n, _, rfl⟩ := List.mem_map.1 hx; rfl
theorem wide_grid : Wide 1 (m.map (rowD k)) := fun x hx => by
  obtain ⟨n, _, rfl⟩ := List.mem_map.1 hx; rfl
theorem ones_grid : Ones (m.map (rowD k)) := fun x hx y hy => by
  obtain ⟨n, _, rfl⟩ := List.mem_map.1 hx
  simp only [rowD, D.cells, List.mem_singleton] at hy; subst hy; rfl
theorem ones_one {r : List Int} : Ones [rowD k r] := fun x hx y hy => by
  simp only [List.mem_singleton] at hx; subst hx
  simp only [rowD, D.cells, List.mem_singleton] at hy; subst hy; rfl
theorem wide_one {r : List Int} : Wide 1 [rowD k r] := fun x hx => by simp only [List.mem_singleton] at hx; subst hx; rfl
theorem atd_row {i : Nat} (h : i < xs.length) : (xs.map (iD k)).getD ((i : Nat) : Int).toNat .any = iD k (xs.getD i 0) := by
  rw [Int.toNat_natCast, List.getD_eq_getElem?_getD, List.getD_eq_getElem?_getD, List.getElem?_map, List.getElem?_eq_getElem h]; rfl
theorem cut_grid {q : Nat} : ((m.map (rowD k)).take q).drop 0 = (m.take q).map (rowD k) := by rw [List.drop_zero, List.map_take]
theorem cut_all {q : Nat} (h : q = m.length) : ((m.map (rowD k)).take q).drop 0 = m.map (rowD k) := by
  rw [List.drop_zero, List.take_of_length_le (by rw [List.length_map]; omega)]
def appD (k : IntKind) (m : List (List Int)) (r : List Int) : D := .sl false (m.map (rowD k) ++ [rowD k r])
theorem er_appD {r : List Int} : (appD k m r).er = gridD k (m ++ [r]) := by
  have h := er_gridD k (m ++ [r])
  unfold appD
  unfold gridD at h ⊢
  rw [List.map_append, List.map_cons, List.map_nil] at h ⊢
  exact h
end
theorem cap_small : ∀ n, n < 60 → Builtin.nextslicecap (n + 1) n * 24 ≤ 281474976710656 := by decide +kernel
end Go.Proofs.YtijebgceopddmaaDoor.Ax
end
section
set_option linter.unusedVariables false
set_option maxRecDepth 100000
namespace Go.Proofs.YtijebgceopddmaaDoor.Ax
open Go.RowKit Go.Proofs.YtijebgceopddmaaDoorW.PrintWords Go.Proofs.YtijebgceopddmaaDoor.Gf Go.Proofs.YtijebgceopddmaaDoor.Pa
set_option maxHeartbeats 4000000 in
theorem p8_1 (m : List (List Int)) (row : List Int) {kh1 : Nat}
    (h1 : quietusref05_Few.f kh1 m 20 = some false) :
    Spec Tryd.prog HighIn 8 ([(gridD .u8 m), (rowD .u8 row)].map T.d) (.d (.val (.bool true))) := by
  refine spec_of Tryd.func8 rfl (by kernel_rfl) gamOk (fun _ _ _ h => h) [(gridD .u8 m), (rowD .u8 row)] (show 2 ≤ 147 by decide) _ rfl ?_
  show awp _ _ 147 _ _ _
  refine a_seq_region ?_
  refine n_assign (by decide) (v := .d (.val (.bool false))) rfl ?_
  refine n_nil ?_
  refine a_assoc ?_
  refine a_seq_region ?_
  refine n_move (by decide) (v := .d ((gridD .u8 m))) rfl ?_
  refine n_call2 (by decide) rfl rfl (r := .d (.val (.bool false))) (spec_er (es := [gridD .u8 m, iD .i64 20]) (by show [D.er (gridD .u8 m), D.er (iD .i64 20)] = _; simp only [er_gridD, er_rowD, er_iD]) (sp10 h1)) ?_
  refine n_not (by decide) (b := false) rfl ?_
  refine n_move (by decide) (v := .d (.val (.bool true))) rfl ?_
  refine n_off rfl rfl (by decide) rfl (by decide) rfl (by decide) ?_
  refine n_off rfl rfl (by decide) rfl (by decide) rfl (by decide) ?_
  refine n_off rfl rfl (by decide) rfl (by decide) rfl (by decide) ?_
  refine n_pick (by decide) (b := true) rfl (v := .d (.val (.bool true))) rfl ?_
  refine n_move (by decide) (v := .d (.val (.bool true))) rfl ?_
  refine n_off rfl rfl (by decide) rfl (by decide) rfl (by decide) ?_
  refine n_off rfl rfl (by decide) rfl (by decide) rfl (by decide) ?_
  refine n_off rfl rfl (by decide) rfl (by decide) rfl (by decide) ?_
  refine n_pick (by decide) (b := true) rfl (v := .d (.val (.bool true))) rfl ?_
  refine n_move (by decide) (v := .d (.val (.bool true))) rfl ?_
  refine n_off rfl rfl (by decide) rfl (by decide) rfl (by decide) ?_
  refine n_off rfl rfl (by decide) rfl (by decide) rfl (by decide) ?_
  refine n_off rfl rfl (by decide) rfl (by decide) rfl (by decide) ?_
  refine n_off rfl rfl (by decide) rfl (by decide) rfl (by decide) ?_
  refine n_off rfl rfl (by decide) rfl (by decide) rfl (by decide) ?_
  refine n_pick (by decide) (b := true) rfl (v := .d (.val (.bool true))) rfl ?_
  refine n_nil ?_
  refine a_seq_true rfl ?_
  refine a_assoc ?_
  refine a_seq_region ?_
  refine n_call0 (by decide) (r := .d (.val (.bool true))) (sp11) ?_
  refine n_assign (by decide) (v := .d (.val (.bool true))) rfl ?_
  refine n_nil ?_
  exact a_seq_ret ⟨.inr rfl, rfl⟩
set_option maxHeartbeats 4000000 in
theorem p8_2 (m : List (List Int)) (row : List Int) {kh1 : Nat}
    (h1 : quietusref05_Few.f kh1 m 20 = some true)
    (d2 : intOp .eql .i64 ((m.length : Nat)) 0 = some (.bool true)) :
    Spec Tryd.prog HighIn 8 ([(gridD .u8 m), (rowD .u8 row)].map T.d) (.d (.val (.bool true))) := by
  refine spec_of Tryd.func8 rfl (by kernel_rfl) gamOk (fun _ _ _ h => h) [(gridD .u8 m), (rowD .u8 row)] (show 2 ≤ 147 by decide) _ rfl ?_
  show awp _ _ 147 _ _ _
  refine a_seq_region ?_
  refine n_assign (by decide) (v := .d (.val (.bool false))) rfl ?_
  refine n_nil ?_
  refine a_assoc ?_
  refine a_seq_region ?_
  refine n_move (by decide) (v := .d ((gridD .u8 m))) rfl ?_
  refine n_call2 (by decide) rfl rfl (r := .d (.val (.bool true))) (spec_er (es := [gridD .u8 m, iD .i64 20]) (by show [D.er (gridD .u8 m), D.er (iD .i64 20)] = _; simp only [er_gridD, er_rowD, er_iD]) (sp10 h1)) ?_
  refine n_not (by decide) (b := true) rfl ?_
  refine n_move (by decide) (v := .d (.val (.bool false))) rfl ?_
  refine n_on rfl rfl (by decide) rfl ?_
  refine n_move (by decide) (v := .d ((gridD .u8 m))) rfl ?_
  refine n_on rfl rfl (by decide) rfl ?_
  refine n_len (by decide) (xs := _) rfl rfl rfl ty_ei22 (n := m.length) (by simp) (fun hl_22 => ?_)
  refine n_on rfl rfl (by decide) rfl ?_
  refine n_int (by decide) (v := (.bool true)) rfl rfl (d2) ?_
  refine n_pick (by decide) (b := false) rfl (v := .d (.val (.bool true))) rfl ?_
  refine n_move (by decide) (v := .d (.val (.bool true))) rfl ?_
  refine n_off rfl rfl (by decide) rfl (by decide) rfl (by decide) ?_
  refine n_off rfl rfl (by decide) rfl (by decide) rfl (by decide) ?_
  refine n_off rfl rfl (by decide) rfl (by decide) rfl (by decide) ?_
  refine n_pick (by decide) (b := true) rfl (v := .d (.val (.bool true))) rfl ?_
  refine n_move (by decide) (v := .d (.val (.bool true))) rfl ?_
  refine n_off rfl rfl (by decide) rfl (by decide) rfl (by decide) ?_
  refine n_off rfl rfl (by decide) rfl (by decide) rfl (by decide) ?_
  refine n_off rfl rfl (by decide) rfl (by decide) rfl (by decide) ?_
  refine n_off rfl rfl (by decide) rfl (by decide) rfl (by decide) ?_
  refine n_off rfl rfl (by decide) rfl (by decide) rfl (by decide) ?_
  refine n_pick (by decide) (b := true) rfl (v := .d (.val (.bool true))) rfl ?_
  refine n_nil ?_
  refine a_seq_true rfl ?_
  refine a_assoc ?_
  refine a_seq_region ?_
  refine n_call0 (by decide) (r := .d (.val (.bool true))) (sp11) ?_
  refine n_assign (by decide) (v := .d (.val (.bool true))) rfl ?_
  refine n_nil ?_
  exact a_seq_ret ⟨.inr rfl, rfl⟩
set_option maxHeartbeats 4000000 in
theorem p8_3 (m : List (List Int)) (row : List Int) {kh1 : Nat} {e3 : Int} {kh4 : Nat}
    (h1 : quietusref05_Few.f kh1 m 20 = some true)
    (d2 : intOp .eql .i64 ((m.length : Nat)) 0 = some (.bool false))
    (h4 : quietusref05_Check.f kh4 m = some e3)
    (d5 : intOp .neq .i64 e3 0 = some (.bool true)) :
    Spec Tryd.prog HighIn 8 ([(gridD .u8 m), (rowD .u8 row)].map T.d) (.d (.val (.bool true))) := by
  refine spec_of Tryd.func8 rfl (by kernel_rfl) gamOk (fun _ _ _ h => h) [(gridD .u8 m), (rowD .u8 row)] (show 2 ≤ 147 by decide) _ rfl ?_
  show awp _ _ 147 _ _ _
  refine a_seq_region ?_
  refine n_assign (by decide) (v := .d (.val (.bool false))) rfl ?_
  refine n_nil ?_
  refine a_assoc ?_
  refine a_seq_region ?_
  refine n_move (by decide) (v := .d ((gridD .u8 m))) rfl ?_
  refine n_call2 (by decide) rfl rfl (r := .d (.val (.bool true))) (spec_er (es := [gridD .u8 m, iD .i64 20]) (by show [D.er (gridD .u8 m), D.er (iD .i64 20)] = _; simp only [er_gridD, er_rowD, er_iD]) (sp10 h1)) ?_
  refine n_not (by decide) (b := true) rfl ?_
  refine n_move (by decide) (v := .d (.val (.bool false))) rfl ?_
  refine n_on rfl rfl (by decide) rfl ?_
  refine n_move (by decide) (v := .d ((gridD .u8 m))) rfl ?_
  refine n_on rfl rfl (by decide) rfl ?_
  refine n_len (by decide) (xs := _) rfl rfl rfl ty_ei22 (n := m.length) (by simp) (fun hl_22 => ?_)
  refine n_on rfl rfl (by decide) rfl ?_
  refine n_int (by decide) (v := (.bool false)) rfl rfl (d2) ?_
  refine n_pick (by decide) (b := false) rfl (v := .d (.val (.bool false))) rfl ?_
  refine n_move (by decide) (v := .d (.val (.bool false))) rfl ?_
  refine n_on rfl rfl (by decide) rfl ?_
  refine n_move (by decide) (v := .d ((gridD .u8 m))) rfl ?_
  refine n_on rfl rfl (by decide) rfl ?_
  refine n_call1 (by decide) rfl (r := .d (.val (.int .i64 e3))) (spec_er (es := [gridD .u8 m]) (by show [D.er (gridD .u8 m)] = _; simp only [er_gridD, er_rowD, er_iD]) (sp12 h4)) ?_
  refine n_on rfl rfl (by decide) rfl ?_
  refine n_int (by decide) (v := (.bool true)) rfl rfl (d5) ?_
  refine n_pick (by decide) (b := false) rfl (v := .d (.val (.bool true))) rfl ?_
  refine n_move (by decide) (v := .d (.val (.bool true))) rfl ?_
  refine n_off rfl rfl (by decide) rfl (by decide) rfl (by decide) ?_
  refine n_off rfl rfl (by decide) rfl (by decide) rfl (by decide) ?_
  refine n_off rfl rfl (by decide) rfl (by decide) rfl (by decide) ?_
  refine n_off rfl rfl (by decide) rfl (by decide) rfl (by decide) ?_
  refine n_off rfl rfl (by decide) rfl (by decide) rfl (by decide) ?_
  refine n_pick (by decide) (b := true) rfl (v := .d (.val (.bool true))) rfl ?_
  refine n_nil ?_
  refine a_seq_true rfl ?_
  refine a_assoc ?_
  refine a_seq_region ?_
  refine n_call0 (by decide) (r := .d (.val (.bool true))) (sp11) ?_
  refine n_assign (by decide) (v := .d (.val (.bool true))) rfl ?_
  refine n_nil ?_
  exact a_seq_ret ⟨.inr rfl, rfl⟩
set_option maxHeartbeats 4000000 in
theorem p8_4 (m : List (List Int)) (row : List Int) {kh1 : Nat} {e3 : Int} {kh4 : Nat} {e6 : Int}
    (h1 : quietusref05_Few.f kh1 m 20 = some true)
    (d2 : intOp .eql .i64 ((m.length : Nat)) 0 = some (.bool false))
    (h4 : quietusref05_Check.f kh4 m = some e3)
    (d5 : intOp .neq .i64 e3 0 = some (.bool false))
    (h7 : quietusref05_Columns.f m = some e6)
    (d8 : intOp .neq .i64 ((row.length : Nat)) e6 = some (.bool true)) :
    Spec Tryd.prog HighIn 8 ([(gridD .u8 m), (rowD .u8 row)].map T.d) (.d (.val (.bool true))) := by
  refine spec_of Tryd.func8 rfl (by kernel_rfl) gamOk (fun _ _ _ h => h) [(gridD .u8 m), (rowD .u8 row)] (show 2 ≤ 147 by decide) _ rfl ?_
  show awp _ _ 147 _ _ _
  refine a_seq_region ?_
  refine n_assign (by decide) (v := .d (.val (.bool false))) rfl ?_
  refine n_nil ?_
  refine a_assoc ?_
  refine a_seq_region ?_
  refine n_move (by decide) (v := .d ((gridD .u8 m))) rfl ?_
  refine n_call2 (by decide) rfl rfl (r := .d (.val (.bool true))) (spec_er (es := [gridD .u8 m, iD .i64 20]) (by show [D.er (gridD .u8 m), D.er (iD .i64 20)] = _; simp only [er_gridD, er_rowD, er_iD]) (sp10 h1)) ?_
  refine n_not (by decide) (b := true) rfl ?_
  refine n_move (by decide) (v := .d (.val (.bool false))) rfl ?_
  refine n_on rfl rfl (by decide) rfl ?_
  refine n_move (by decide) (v := .d ((gridD .u8 m))) rfl ?_
  refine n_on rfl rfl (by decide) rfl ?_
  refine n_len (by decide) (xs := _) rfl rfl rfl ty_ei22 (n := m.length) (by simp) (fun hl_22 => ?_)
  refine n_on rfl rfl (by decide) rfl ?_
  refine n_int (by decide) (v := (.bool false)) rfl rfl (d2) ?_
  refine n_pick (by decide) (b := false) rfl (v := .d (.val (.bool false))) rfl ?_
  refine n_move (by decide) (v := .d (.val (.bool false))) rfl ?_
  refine n_on rfl rfl (by decide) rfl ?_
  refine n_move (by decide) (v := .d ((gridD .u8 m))) rfl ?_
  refine n_on rfl rfl (by decide) rfl ?_
  refine n_call1 (by decide) rfl (r := .d (.val (.int .i64 e3))) (spec_er (es := [gridD .u8 m]) (by show [D.er (gridD .u8 m)] = _; simp only [er_gridD, er_rowD, er_iD]) (sp12 h4)) ?_
  refine n_on rfl rfl (by decide) rfl ?_
  refine n_int (by decide) (v := (.bool false)) rfl rfl (d5) ?_
  refine n_pick (by decide) (b := false) rfl (v := .d (.val (.bool false))) rfl ?_
  refine n_move (by decide) (v := .d (.val (.bool false))) rfl ?_
  refine n_on rfl rfl (by decide) rfl ?_
  refine n_move (by decide) (v := .d ((rowD .u8 row))) rfl ?_
  refine n_on rfl rfl (by decide) rfl ?_
  refine n_len (by decide) (xs := _) rfl rfl rfl ty_ei43 (n := row.length) (by simp) (fun hl_32 => ?_)
  refine n_on rfl rfl (by decide) rfl ?_
  refine n_move (by decide) (v := .d ((gridD .u8 m))) rfl ?_
  refine n_on rfl rfl (by decide) rfl ?_
  refine n_call1 (by decide) rfl (r := .d (.val (.int .i64 e6))) (spec_er (es := [gridD .u8 m]) (by show [D.er (gridD .u8 m)] = _; simp only [er_gridD, er_rowD, er_iD]) (sp30 h7)) ?_
  refine n_on rfl rfl (by decide) rfl ?_
  refine n_int (by decide) (v := (.bool true)) rfl rfl (d8) ?_
  refine n_pick (by decide) (b := false) rfl (v := .d (.val (.bool true))) rfl ?_
  refine n_nil ?_
  refine a_seq_true rfl ?_
  refine a_assoc ?_
  refine a_seq_region ?_
  refine n_call0 (by decide) (r := .d (.val (.bool true))) (sp11) ?_
  refine n_assign (by decide) (v := .d (.val (.bool true))) rfl ?_
  refine n_nil ?_
  exact a_seq_ret ⟨.inr rfl, rfl⟩
set_option maxHeartbeats 4000000 in
theorem p8_5 (m : List (List Int)) (row : List Int) {kh1 : Nat} {e3 : Int} {kh4 : Nat} {e6 : Int} {r9 : List Int} {e10 : Int} {kh11 : Nat} {e12 : Int} {e13 : Int} {kh14 : Nat} {e15 : Int} {e16 : Int} {kh17 : Nat}
    (hm : m.length ≤ 20)
    (h1 : quietusref05_Few.f kh1 m 20 = some true)
    (d2 : intOp .eql .i64 ((m.length : Nat)) 0 = some (.bool false))
    (h4 : quietusref05_Check.f kh4 m = some e3)
    (d5 : intOp .neq .i64 e3 0 = some (.bool false))
    (h7 : quietusref05_Columns.f m = some e6)
    (d8 : intOp .neq .i64 ((row.length : Nat)) e6 = some (.bool false))
    (h11 : matrix_Express.f kh11 m row = some (r9, e10))
    (h14 : matrix_Rank.f kh14 m = some (e12, e13))
    (h17 : matrix_Rank.f kh17 (m ++ [row]) = some (e15, e16))
    (d18 : intOp .neq .i64 e13 0 = some (.bool false))
    (d19 : intOp .neq .i64 e16 0 = some (.bool false))
    (d20 : intOp .neq .i64 e10 0 = some (.bool true))
    (d21 : intOp .neq .i64 e10 8 = some (.bool false))
    (d22 : intOp .eql .i64 e10 0 = some (.bool false))
    (d23 : intOp .eql .i64 e15 e12 = some (.bool false))
    (d24 : intOp .neq .i64 e10 0 = some (.bool true))
    (d25 : intOp .eql .i64 ((r9.length : Nat)) 0 = some (.bool true)) :
    Spec Tryd.prog HighIn 8 ([(gridD .u8 m), (rowD .u8 row)].map T.d) (.d (.val (.bool true))) := by
  refine spec_of Tryd.func8 rfl (by kernel_rfl) gamOk (fun _ _ _ h => h) [(gridD .u8 m), (rowD .u8 row)] (show 2 ≤ 147 by decide) _ rfl ?_
  show awp _ _ 147 _ _ _
  refine a_seq_region ?_
  refine n_assign (by decide) (v := .d (.val (.bool false))) rfl ?_
  refine n_nil ?_
  refine a_assoc ?_
  refine a_seq_region ?_
  refine n_move (by decide) (v := .d ((gridD .u8 m))) rfl ?_
  refine n_call2 (by decide) rfl rfl (r := .d (.val (.bool true))) (spec_er (es := [gridD .u8 m, iD .i64 20]) (by show [D.er (gridD .u8 m), D.er (iD .i64 20)] = _; simp only [er_gridD, er_rowD, er_iD]) (sp10 h1)) ?_
  refine n_not (by decide) (b := true) rfl ?_
  refine n_move (by decide) (v := .d (.val (.bool false))) rfl ?_
  refine n_on rfl rfl (by decide) rfl ?_
  refine n_move (by decide) (v := .d ((gridD .u8 m))) rfl ?_
  refine n_on rfl rfl (by decide) rfl ?_
  refine n_len (by decide) (xs := _) rfl rfl rfl ty_ei22 (n := m.length) (by simp) (fun hl_22 => ?_)
  refine n_on rfl rfl (by decide) rfl ?_
  refine n_int (by decide) (v := (.bool false)) rfl rfl (d2) ?_
  refine n_pick (by decide) (b := false) rfl (v := .d (.val (.bool false))) rfl ?_
  refine n_move (by decide) (v := .d (.val (.bool false))) rfl ?_
  refine n_on rfl rfl (by decide) rfl ?_
  refine n_move (by decide) (v := .d ((gridD .u8 m))) rfl ?_
  refine n_on rfl rfl (by decide) rfl ?_
  refine n_call1 (by decide) rfl (r := .d (.val (.int .i64 e3))) (spec_er (es := [gridD .u8 m]) (by show [D.er (gridD .u8 m)] = _; simp only [er_gridD, er_rowD, er_iD]) (sp12 h4)) ?_
  refine n_on rfl rfl (by decide) rfl ?_
  refine n_int (by decide) (v := (.bool false)) rfl rfl (d5) ?_
  refine n_pick (by decide) (b := false) rfl (v := .d (.val (.bool false))) rfl ?_
  refine n_move (by decide) (v := .d (.val (.bool false))) rfl ?_
  refine n_on rfl rfl (by decide) rfl ?_
  refine n_move (by decide) (v := .d ((rowD .u8 row))) rfl ?_
  refine n_on rfl rfl (by decide) rfl ?_
  refine n_len (by decide) (xs := _) rfl rfl rfl ty_ei43 (n := row.length) (by simp) (fun hl_32 => ?_)
  refine n_on rfl rfl (by decide) rfl ?_
  refine n_move (by decide) (v := .d ((gridD .u8 m))) rfl ?_
  refine n_on rfl rfl (by decide) rfl ?_
  refine n_call1 (by decide) rfl (r := .d (.val (.int .i64 e6))) (spec_er (es := [gridD .u8 m]) (by show [D.er (gridD .u8 m)] = _; simp only [er_gridD, er_rowD, er_iD]) (sp30 h7)) ?_
  refine n_on rfl rfl (by decide) rfl ?_
  refine n_int (by decide) (v := (.bool false)) rfl rfl (d8) ?_
  refine n_pick (by decide) (b := false) rfl (v := .d (.val (.bool false))) rfl ?_
  refine n_nil ?_
  refine a_seq_false rfl ?_
  refine a_seq_skip ?_
  refine a_seq_region ?_
  refine n_move (by decide) (v := .d ((gridD .u8 m))) rfl ?_
  refine n_move (by decide) (v := .d ((rowD .u8 row))) rfl ?_
  refine n_call2 (by decide) rfl rfl (r := .tup [(rowD .u8 r9), .val (.int .i64 e10)]) (spec_er (es := [gridD .u8 m, rowD .u8 row]) (by show [D.er (gridD .u8 m), D.er (rowD .u8 row)] = _; simp only [er_gridD, er_rowD, er_iD]) (sp25 h11)) ?_
  refine n_move (by decide) (v := .tup [(rowD .u8 r9), .val (.int .i64 e10)]) rfl ?_
  refine n_extract (by decide) (t := (rowD .u8 r9)) rfl rfl ?_
  refine n_extract (by decide) (t := .val (.int .i64 e10)) rfl rfl ?_
  refine n_assign (by decide) (v := .d ((rowD .u8 r9))) rfl ?_
  refine n_assign (by decide) (v := .d (.val (.int .i64 e10))) rfl ?_
  refine n_nil ?_
  refine a_seq_region ?_
  refine n_move (by decide) (v := .d ((gridD .u8 m))) rfl ?_
  refine n_call1 (by decide) rfl (r := .tup [.val (.int .i64 e12), .val (.int .i64 e13)]) (spec_er (es := [gridD .u8 m]) (by show [D.er (gridD .u8 m)] = _; simp only [er_gridD, er_rowD, er_iD]) (sp15 h14)) ?_
  refine n_move (by decide) (v := .tup [.val (.int .i64 e12), .val (.int .i64 e13)]) rfl ?_
  refine n_extract (by decide) (t := .val (.int .i64 e12)) rfl rfl ?_
  refine n_extract (by decide) (t := .val (.int .i64 e13)) rfl rfl ?_
  refine n_assign (by decide) (v := .d (.val (.int .i64 e12))) rfl ?_
  refine n_assign (by decide) (v := .d (.val (.int .i64 e13))) rfl ?_
  refine n_nil ?_
  refine a_seq_region ?_
  refine n_move (by decide) (v := .d ((gridD .u8 m))) rfl ?_
  refine n_move (by decide) (v := .d ((gridD .u8 m))) rfl ?_
  refine n_len (by decide) (xs := _) rfl rfl rfl ty_ei22 (n := m.length) (by simp) (fun hl_52 => ?_)
  refine n_move (by decide) (v := .d ((gridD .u8 m))) rfl ?_
  refine n_len (by decide) (xs := _) rfl rfl rfl ty_ei22 (n := m.length) (by simp) (fun hl_54 => ?_)
  refine n_slice (by decide) (l := 0) (q := m.length) (ys := m.map (rowD .u8)) ty_e22 rfl rfl rfl (fun _ => ⟨rfl, rfl⟩) (by omega) (by simp only [List.length_map]; omega) ty_s43 (by decide) wide_grid (ex' := true) rfl (cut_all rfl) ?_
  refine n_move (by decide) (v := .d ((rowD .u8 row))) rfl ?_
  refine n_build (by decide) (xs := [(rowD .u8 row)]) ty_e22 ty_zs43 ty_s43 (by decide) rfl (by decide) rfl (by first | rfl | simp [D.known, D.cells]) ?_
  refine n_append (by decide) (xs := m.map (rowD .u8)) (ys := [rowD .u8 row]) ty_e22 ty_z43 rfl rfl ty_s43 ty_b43 (by decide) wide_grid wide_one ones_grid ones_one (Nat.succ_pos _) (by simp only [List.length_map, List.length_singleton]; omega) (by rw [List.length_map, List.length_singleton]; exact cap_small _ (by omega)) ?_
  refine n_call1 (by decide) rfl (r := .tup [.val (.int .i64 e15), .val (.int .i64 e16)]) (spec_er (es := [gridD .u8 (m ++ [row])]) (congrArg (fun x => [x]) er_appD) (sp15 h17)) ?_
  refine n_move (by decide) (v := .tup [.val (.int .i64 e15), .val (.int .i64 e16)]) rfl ?_
  refine n_extract (by decide) (t := .val (.int .i64 e15)) rfl rfl ?_
  refine n_extract (by decide) (t := .val (.int .i64 e16)) rfl rfl ?_
  refine n_assign (by decide) (v := .d (.val (.int .i64 e15))) rfl ?_
  refine n_assign (by decide) (v := .d (.val (.int .i64 e16))) rfl ?_
  refine n_nil ?_
  refine a_assoc ?_
  refine a_seq_region ?_
  refine n_move (by decide) (v := .d (.val (.int .i64 e13))) rfl ?_
  refine n_int (by decide) (v := (.bool false)) rfl rfl (d18) ?_
  refine n_move (by decide) (v := .d (.val (.bool false))) rfl ?_
  refine n_on rfl rfl (by decide) rfl ?_
  refine n_move (by decide) (v := .d (.val (.int .i64 e16))) rfl ?_
  refine n_on rfl rfl (by decide) rfl ?_
  refine n_int (by decide) (v := (.bool false)) rfl rfl (d19) ?_
  refine n_pick (by decide) (b := false) rfl (v := .d (.val (.bool false))) rfl ?_
  refine n_move (by decide) (v := .d (.val (.bool false))) rfl ?_
  refine n_on rfl rfl (by decide) rfl ?_
  refine n_move (by decide) (v := .d (.val (.int .i64 e10))) rfl ?_
  refine n_on rfl rfl (by decide) rfl ?_
  refine n_int (by decide) (v := (.bool true)) rfl rfl (d20) ?_
  refine n_on rfl rfl (by decide) rfl ?_
  refine n_move (by decide) (v := .d (.val (.bool true))) rfl ?_
  refine n_on rfl rfl (by decide) rfl ?_
  refine n_move (by decide) (v := .d (.val (.int .i64 e10))) rfl ?_
  refine n_on rfl rfl (by decide) rfl ?_
  refine n_int (by decide) (v := (.bool false)) rfl rfl (d21) ?_
  refine n_on rfl rfl (by decide) rfl ?_
  refine n_pick (by decide) (b := true) rfl (v := .d (.val (.bool false))) rfl ?_
  refine n_pick (by decide) (b := false) rfl (v := .d (.val (.bool false))) rfl ?_
  refine n_move (by decide) (v := .d (.val (.bool false))) rfl ?_
  refine n_on rfl rfl (by decide) rfl ?_
  refine n_move (by decide) (v := .d (.val (.int .i64 e10))) rfl ?_
  refine n_on rfl rfl (by decide) rfl ?_
  refine n_int (by decide) (v := (.bool false)) rfl rfl (d22) ?_
  refine n_on rfl rfl (by decide) rfl ?_
  refine n_move (by decide) (v := .d (.val (.int .i64 e15))) rfl ?_
  refine n_on rfl rfl (by decide) rfl ?_
  refine n_move (by decide) (v := .d (.val (.int .i64 e12))) rfl ?_
  refine n_on rfl rfl (by decide) rfl ?_
  refine n_int (by decide) (v := (.bool false)) rfl rfl (d23) ?_
  refine n_on rfl rfl (by decide) rfl ?_
  refine n_bool (by decide) (v := (.bool false)) ty_u4 rfl rfl rfl ?_
  refine n_pick (by decide) (b := false) rfl (v := .d (.val (.bool false))) rfl ?_
  refine n_nil ?_
  refine a_seq_false rfl ?_
  refine a_seq_skip ?_
  refine a_assoc ?_
  refine a_seq_region ?_
  refine n_move (by decide) (v := .d (.val (.int .i64 e10))) rfl ?_
  refine n_int (by decide) (v := (.bool true)) rfl rfl (d24) ?_
  refine n_nil ?_
  refine a_seq_true rfl ?_
  refine a_assoc ?_
  refine a_seq_region ?_
  refine n_call0 (by decide) (r := .d (.val (.bool true))) (sp11) ?_
  refine n_move (by decide) (v := .d (.val (.bool true))) rfl ?_
  refine n_on rfl rfl (by decide) rfl ?_
  refine n_move (by decide) (v := .d ((rowD .u8 r9))) rfl ?_
  refine n_on rfl rfl (by decide) rfl ?_
  refine n_len (by decide) (xs := _) rfl rfl rfl ty_ei43 (n := r9.length) (by simp) (fun hl_89 => ?_)
  refine n_on rfl rfl (by decide) rfl ?_
  refine n_int (by decide) (v := (.bool true)) rfl rfl (d25) ?_
  refine n_pick (by decide) (b := true) rfl (v := .d (.val (.bool true))) rfl ?_
  refine n_assign (by decide) (v := .d (.val (.bool true))) rfl ?_
  refine n_nil ?_
  exact a_seq_ret ⟨.inr rfl, rfl⟩
set_option maxHeartbeats 4000000 in
theorem p8_6 (m : List (List Int)) (row : List Int) {kh1 : Nat} {e3 : Int} {kh4 : Nat} {e6 : Int} {r9 : List Int} {e10 : Int} {kh11 : Nat} {e12 : Int} {e13 : Int} {kh14 : Nat} {e15 : Int} {e16 : Int} {kh17 : Nat} {r25 : List Int} {kh26 : Nat} {kh27 : Nat}
    (hm : m.length ≤ 20)
    (hlm : r9.length = m.length)
    (h1 : quietusref05_Few.f kh1 m 20 = some true)
    (d2 : intOp .eql .i64 ((m.length : Nat)) 0 = some (.bool false))
    (h4 : quietusref05_Check.f kh4 m = some e3)
    (d5 : intOp .neq .i64 e3 0 = some (.bool false))
    (h7 : quietusref05_Columns.f m = some e6)
    (d8 : intOp .neq .i64 ((row.length : Nat)) e6 = some (.bool false))
    (h11 : matrix_Express.f kh11 m row = some (r9, e10))
    (h14 : matrix_Rank.f kh14 m = some (e12, e13))
    (h17 : matrix_Rank.f kh17 (m ++ [row]) = some (e15, e16))
    (d18 : intOp .neq .i64 e13 0 = some (.bool false))
    (d19 : intOp .neq .i64 e16 0 = some (.bool false))
    (d20 : intOp .neq .i64 e10 0 = some (.bool false))
    (d21 : intOp .eql .i64 e10 0 = some (.bool true))
    (d22 : intOp .eql .i64 e15 e12 = some (.bool true))
    (d23 : intOp .neq .i64 e10 0 = some (.bool false))
    (d24 : intOp .neq .i64 ((r9.length : Nat)) ((m.length : Nat)) = some (.bool false))
    (h26 : quietusref05_Combine.f kh26 r9 m ((row.length : Nat)) = some r25)
    (h27 : quietusref05_SameRow.f kh27 r25 row = some true)
    (hL40 : ∀ i : Nat, i < r9.length → r9.getD i 0 = 0 → ∃ (e29 : Int) (e30 : Int) (kh31 : Nat) (e33 : Int) (e34 : Int) (kh35 : Nat), matrix_Rank.f kh31 (m.take i) = some (e29, e30) ∧ matrix_Rank.f kh35 (m.take (i + 1)) = some (e33, e34) ∧ intOp .neq .i64 e30 0 = some (.bool false) ∧ intOp .neq .i64 e34 0 = some (.bool false) ∧ intOp .neq .u8 ((r9.getD i 0)) 0 = some (.bool false))
    (hL56 : ∀ i : Nat, i < r9.length → ¬ r9.getD i 0 = 0 → ∃ (e42 : Int) (e43 : Int) (kh44 : Nat) (e46 : Int) (e47 : Int) (kh48 : Nat) (x53 : Int), matrix_Rank.f kh44 (m.take i) = some (e42, e43) ∧ matrix_Rank.f kh48 (m.take (i + 1)) = some (e46, e47) ∧ intOp .neq .i64 e43 0 = some (.bool false) ∧ intOp .neq .i64 e47 0 = some (.bool false) ∧ intOp .neq .u8 ((r9.getD i 0)) 0 = some (.bool true) ∧ intOp .add .i64 e42 1 = some (.int .i64 x53) ∧ intOp .neq .i64 e46 x53 = some (.bool false)) :
    Spec Tryd.prog HighIn 8 ([(gridD .u8 m), (rowD .u8 row)].map T.d) (.d (.val (.bool true))) := by
  refine spec_of Tryd.func8 rfl (by kernel_rfl) gamOk (fun _ _ _ h => h) [(gridD .u8 m), (rowD .u8 row)] (show 2 ≤ 147 by decide) _ rfl ?_
  show awp _ _ 147 _ _ _
  refine a_seq_region ?_
  refine n_assign (by decide) (v := .d (.val (.bool false))) rfl ?_
  refine n_nil ?_
  refine a_assoc ?_
  refine a_seq_region ?_
  refine n_move (by decide) (v := .d ((gridD .u8 m))) rfl ?_
  refine n_call2 (by decide) rfl rfl (r := .d (.val (.bool true))) (spec_er (es := [gridD .u8 m, iD .i64 20]) (by show [D.er (gridD .u8 m), D.er (iD .i64 20)] = _; simp only [er_gridD, er_rowD, er_iD]) (sp10 h1)) ?_
  refine n_not (by decide) (b := true) rfl ?_
  refine n_move (by decide) (v := .d (.val (.bool false))) rfl ?_
  refine n_on rfl rfl (by decide) rfl ?_
  refine n_move (by decide) (v := .d ((gridD .u8 m))) rfl ?_
  refine n_on rfl rfl (by decide) rfl ?_
  refine n_len (by decide) (xs := _) rfl rfl rfl ty_ei22 (n := m.length) (by simp) (fun hl_22 => ?_)
  refine n_on rfl rfl (by decide) rfl ?_
  refine n_int (by decide) (v := (.bool false)) rfl rfl (d2) ?_
  refine n_pick (by decide) (b := false) rfl (v := .d (.val (.bool false))) rfl ?_
  refine n_move (by decide) (v := .d (.val (.bool false))) rfl ?_
  refine n_on rfl rfl (by decide) rfl ?_
  refine n_move (by decide) (v := .d ((gridD .u8 m))) rfl ?_
  refine n_on rfl rfl (by decide) rfl ?_
  refine n_call1 (by decide) rfl (r := .d (.val (.int .i64 e3))) (spec_er (es := [gridD .u8 m]) (by show [D.er (gridD .u8 m)] = _; simp only [er_gridD, er_rowD, er_iD]) (sp12 h4)) ?_
  refine n_on rfl rfl (by decide) rfl ?_
  refine n_int (by decide) (v := (.bool false)) rfl rfl (d5) ?_
  refine n_pick (by decide) (b := false) rfl (v := .d (.val (.bool false))) rfl ?_
  refine n_move (by decide) (v := .d (.val (.bool false))) rfl ?_
  refine n_on rfl rfl (by decide) rfl ?_
  refine n_move (by decide) (v := .d ((rowD .u8 row))) rfl ?_
  refine n_on rfl rfl (by decide) rfl ?_
  refine n_len (by decide) (xs := _) rfl rfl rfl ty_ei43 (n := row.length) (by simp) (fun hl_32 => ?_)
  refine n_on rfl rfl (by decide) rfl ?_
  refine n_move (by decide) (v := .d ((gridD .u8 m))) rfl ?_
  refine n_on rfl rfl (by decide) rfl ?_
  refine n_call1 (by decide) rfl (r := .d (.val (.int .i64 e6))) (spec_er (es := [gridD .u8 m]) (by show [D.er (gridD .u8 m)] = _; simp only [er_gridD, er_rowD, er_iD]) (sp30 h7)) ?_
  refine n_on rfl rfl (by decide) rfl ?_
  refine n_int (by decide) (v := (.bool false)) rfl rfl (d8) ?_
  refine n_pick (by decide) (b := false) rfl (v := .d (.val (.bool false))) rfl ?_
  refine n_nil ?_
  refine a_seq_false rfl ?_
  refine a_seq_skip ?_
  refine a_seq_region ?_
  refine n_move (by decide) (v := .d ((gridD .u8 m))) rfl ?_
  refine n_move (by decide) (v := .d ((rowD .u8 row))) rfl ?_
  refine n_call2 (by decide) rfl rfl (r := .tup [(rowD .u8 r9), .val (.int .i64 e10)]) (spec_er (es := [gridD .u8 m, rowD .u8 row]) (by show [D.er (gridD .u8 m), D.er (rowD .u8 row)] = _; simp only [er_gridD, er_rowD, er_iD]) (sp25 h11)) ?_
  refine n_move (by decide) (v := .tup [(rowD .u8 r9), .val (.int .i64 e10)]) rfl ?_
  refine n_extract (by decide) (t := (rowD .u8 r9)) rfl rfl ?_
  refine n_extract (by decide) (t := .val (.int .i64 e10)) rfl rfl ?_
  refine n_assign (by decide) (v := .d ((rowD .u8 r9))) rfl ?_
  refine n_assign (by decide) (v := .d (.val (.int .i64 e10))) rfl ?_
  refine n_nil ?_
  refine a_seq_region ?_
  refine n_move (by decide) (v := .d ((gridD .u8 m))) rfl ?_
  refine n_call1 (by decide) rfl (r := .tup [.val (.int .i64 e12), .val (.int .i64 e13)]) (spec_er (es := [gridD .u8 m]) (by show [D.er (gridD .u8 m)] = _; simp only [er_gridD, er_rowD, er_iD]) (sp15 h14)) ?_
  refine n_move (by decide) (v := .tup [.val (.int .i64 e12), .val (.int .i64 e13)]) rfl ?_
  refine n_extract (by decide) (t := .val (.int .i64 e12)) rfl rfl ?_
  refine n_extract (by decide) (t := .val (.int .i64 e13)) rfl rfl ?_
  refine n_assign (by decide) (v := .d (.val (.int .i64 e12))) rfl ?_
  refine n_assign (by decide) (v := .d (.val (.int .i64 e13))) rfl ?_
  refine n_nil ?_
  refine a_seq_region ?_
  refine n_move (by decide) (v := .d ((gridD .u8 m))) rfl ?_
  refine n_move (by decide) (v := .d ((gridD .u8 m))) rfl ?_
  refine n_len (by decide) (xs := _) rfl rfl rfl ty_ei22 (n := m.length) (by simp) (fun hl_52 => ?_)
  refine n_move (by decide) (v := .d ((gridD .u8 m))) rfl ?_
  refine n_len (by decide) (xs := _) rfl rfl rfl ty_ei22 (n := m.length) (by simp) (fun hl_54 => ?_)
  refine n_slice (by decide) (l := 0) (q := m.length) (ys := m.map (rowD .u8)) ty_e22 rfl rfl rfl (fun _ => ⟨rfl, rfl⟩) (by omega) (by simp only [List.length_map]; omega) ty_s43 (by decide) wide_grid (ex' := true) rfl (cut_all rfl) ?_
  refine n_move (by decide) (v := .d ((rowD .u8 row))) rfl ?_
  refine n_build (by decide) (xs := [(rowD .u8 row)]) ty_e22 ty_zs43 ty_s43 (by decide) rfl (by decide) rfl (by first | rfl | simp [D.known, D.cells]) ?_
  refine n_append (by decide) (xs := m.map (rowD .u8)) (ys := [rowD .u8 row]) ty_e22 ty_z43 rfl rfl ty_s43 ty_b43 (by decide) wide_grid wide_one ones_grid ones_one (Nat.succ_pos _) (by simp only [List.length_map, List.length_singleton]; omega) (by rw [List.length_map, List.length_singleton]; exact cap_small _ (by omega)) ?_
  refine n_call1 (by decide) rfl (r := .tup [.val (.int .i64 e15), .val (.int .i64 e16)]) (spec_er (es := [gridD .u8 (m ++ [row])]) (congrArg (fun x => [x]) er_appD) (sp15 h17)) ?_
  refine n_move (by decide) (v := .tup [.val (.int .i64 e15), .val (.int .i64 e16)]) rfl ?_
  refine n_extract (by decide) (t := .val (.int .i64 e15)) rfl rfl ?_
  refine n_extract (by decide) (t := .val (.int .i64 e16)) rfl rfl ?_
  refine n_assign (by decide) (v := .d (.val (.int .i64 e15))) rfl ?_
  refine n_assign (by decide) (v := .d (.val (.int .i64 e16))) rfl ?_
  refine n_nil ?_
  refine a_assoc ?_
  refine a_seq_region ?_
  refine n_move (by decide) (v := .d (.val (.int .i64 e13))) rfl ?_
  refine n_int (by decide) (v := (.bool false)) rfl rfl (d18) ?_
  refine n_move (by decide) (v := .d (.val (.bool false))) rfl ?_
  refine n_on rfl rfl (by decide) rfl ?_
  refine n_move (by decide) (v := .d (.val (.int .i64 e16))) rfl ?_
  refine n_on rfl rfl (by decide) rfl ?_
  refine n_int (by decide) (v := (.bool false)) rfl rfl (d19) ?_
  refine n_pick (by decide) (b := false) rfl (v := .d (.val (.bool false))) rfl ?_
  refine n_move (by decide) (v := .d (.val (.bool false))) rfl ?_
  refine n_on rfl rfl (by decide) rfl ?_
  refine n_move (by decide) (v := .d (.val (.int .i64 e10))) rfl ?_
  refine n_on rfl rfl (by decide) rfl ?_
  refine n_int (by decide) (v := (.bool false)) rfl rfl (d20) ?_
  refine n_on rfl rfl (by decide) rfl ?_
  refine n_move (by decide) (v := .d (.val (.bool false))) rfl ?_
  refine n_off rfl rfl (by decide) rfl (by decide) rfl (by decide) ?_
  refine n_off rfl rfl (by decide) rfl (by decide) rfl (by decide) ?_
  refine n_on rfl rfl (by decide) rfl ?_
  refine n_pick (by decide) (b := false) rfl (v := .d (.val (.bool false))) rfl ?_
  refine n_pick (by decide) (b := false) rfl (v := .d (.val (.bool false))) rfl ?_
  refine n_move (by decide) (v := .d (.val (.bool false))) rfl ?_
  refine n_on rfl rfl (by decide) rfl ?_
  refine n_move (by decide) (v := .d (.val (.int .i64 e10))) rfl ?_
  refine n_on rfl rfl (by decide) rfl ?_
  refine n_int (by decide) (v := (.bool true)) rfl rfl (d21) ?_
  refine n_on rfl rfl (by decide) rfl ?_
  refine n_move (by decide) (v := .d (.val (.int .i64 e15))) rfl ?_
  refine n_on rfl rfl (by decide) rfl ?_
  refine n_move (by decide) (v := .d (.val (.int .i64 e12))) rfl ?_
  refine n_on rfl rfl (by decide) rfl ?_
  refine n_int (by decide) (v := (.bool true)) rfl rfl (d22) ?_
  refine n_on rfl rfl (by decide) rfl ?_
  refine n_bool (by decide) (v := (.bool false)) ty_u4 rfl rfl rfl ?_
  refine n_pick (by decide) (b := false) rfl (v := .d (.val (.bool false))) rfl ?_
  refine n_nil ?_
  refine a_seq_false rfl ?_
  refine a_seq_skip ?_
  refine a_assoc ?_
  refine a_seq_region ?_
  refine n_move (by decide) (v := .d (.val (.int .i64 e10))) rfl ?_
  refine n_int (by decide) (v := (.bool false)) rfl rfl (d23) ?_
  refine n_nil ?_
  refine a_seq_false rfl ?_
  refine a_seq_skip ?_
  refine a_assoc ?_
  refine a_seq_region ?_
  refine n_move (by decide) (v := .d ((rowD .u8 r9))) rfl ?_
  refine n_len (by decide) (xs := _) rfl rfl rfl ty_ei43 (n := r9.length) (by simp) (fun hl_93 => ?_)
  refine n_move (by decide) (v := .d ((gridD .u8 m))) rfl ?_
  refine n_len (by decide) (xs := _) rfl rfl rfl ty_ei22 (n := m.length) (by simp) (fun hl_95 => ?_)
  refine n_int (by decide) (v := (.bool false)) rfl rfl (d24) ?_
  refine n_move (by decide) (v := .d (.val (.bool false))) rfl ?_
  refine n_on rfl rfl (by decide) rfl ?_
  refine n_move (by decide) (v := .d ((rowD .u8 r9))) rfl ?_
  refine n_on rfl rfl (by decide) rfl ?_
  refine n_move (by decide) (v := .d ((gridD .u8 m))) rfl ?_
  refine n_on rfl rfl (by decide) rfl ?_
  refine n_move (by decide) (v := .d ((rowD .u8 row))) rfl ?_
  refine n_on rfl rfl (by decide) rfl ?_
  refine n_len (by decide) (xs := _) rfl rfl rfl ty_ei43 (n := row.length) (by simp) (fun hl_101 => ?_)
  refine n_on rfl rfl (by decide) rfl ?_
  refine n_call3 (by decide) rfl rfl rfl (r := .d ((rowD .u8 r25))) (spec_er (es := [rowD .u8 r9, gridD .u8 m, iD .i64 ((row.length : Nat))]) (by show [D.er (rowD .u8 r9), D.er (gridD .u8 m), D.er (iD .i64 ((row.length : Nat)))] = _; simp only [er_gridD, er_rowD, er_iD]) (sp34 h26)) ?_
  refine n_on rfl rfl (by decide) rfl ?_
  refine n_move (by decide) (v := .d ((rowD .u8 row))) rfl ?_
  refine n_on rfl rfl (by decide) rfl ?_
  refine n_call2 (by decide) rfl rfl (r := .d (.val (.bool true))) (spec_er (es := [rowD .u8 r25, rowD .u8 row]) (by show [D.er (rowD .u8 r25), D.er (rowD .u8 row)] = _; simp only [er_gridD, er_rowD, er_iD]) (sp27 h27)) ?_
  refine n_on rfl rfl (by decide) rfl ?_
  refine n_not (by decide) (b := true) rfl ?_
  refine n_pick (by decide) (b := false) rfl (v := .d (.val (.bool false))) rfl ?_
  refine n_nil ?_
  refine a_seq_false rfl ?_
  refine a_seq_skip ?_
  refine a_assoc ?_
  refine a_seq_region ?_
  refine n_move (by decide) (v := .d ((rowD .u8 r9))) rfl ?_
  refine n_len (by decide) (xs := _) rfl rfl rfl ty_ei43 (n := r9.length) (by simp) (fun hl_108 => ?_)
  refine n_move (by decide) (v := .d (.val (.int .i64 0))) rfl ?_
  refine n_nil ?_
  refine a_seq_loop (fun n S => ∃ i : Nat, i + n = r9.length ∧ S.f 109 = .d (.val (.int .i64 ((i : Nat) : Int))) ∧ S.b = [] ∧ S.f 0 = .d ((gridD .u8 m)) ∧ S.f 107 = .d ((rowD .u8 r9)) ∧ S.f 108 = .d (.val (.int .i64 ((r9.length : Nat))))) (r9.length) ⟨0, Nat.zero_add _, rfl, rfl, rfl, rfl, rfl⟩ (fun n S hI => ?_)
  obtain ⟨i, hi, hctr, hSb, hk0, hk107, hk108⟩ := hI
  by_cases hd : i < r9.length
  · rcases (Decidable.em (r9.getD i 0 = 0)) with hc0 | hc1
    · obtain ⟨e29, e30, kh31, e33, e34, kh35, h31, h35, d36, d37, d38⟩ := hL40 i hd hc0
      refine a_seq_region ?_
      refine n_int (by decide) (v := (.bool true)) (by first | rfl | assumption) (by first | rfl | assumption) (lssT (by omega)) ?_
      refine n_nil ?_
      refine a_seq_true (by first | rfl | assumption) ?_
      refine a_seq_skip ?_
      refine a_seq_block ?_
      refine a_seq_region ?_
      refine n_move (by decide) (v := .d (.val (.int .i64 ((i : Nat))))) (by first | rfl | assumption) ?_
      refine n_index (by decide) (y := .val (.int .u8 ((r9.getD i 0)))) ty_u43 (by first | rfl | assumption) (by first | rfl | assumption) ((by omega)) ((by simp only [List.length_map]; omega)) ty_s5 (by decide) (wide_row) (atd_row (by omega)) ?_
      refine n_loadVal (by decide) (y := .val (.int .u8 ((r9.getD i 0)))) ty_r5 (by first | rfl | assumption) (by first | rfl | assumption) ?_
      refine n_assign (by decide) (v := .d (.val (.int .i64 ((i : Nat))))) (by first | rfl | assumption) ?_
      refine n_assign (by decide) (v := .d (.val (.int .u8 ((r9.getD i 0))))) (by first | rfl | assumption) ?_
      refine n_nil ?_
      refine a_seq_region ?_
      refine n_move (by decide) (v := .d ((gridD .u8 m))) (by first | rfl | assumption) ?_
      refine n_move (by decide) (v := .d (.val (.int .i64 ((i : Nat))))) (by first | rfl | assumption) ?_
      refine n_slice (by decide) (l := 0) (q := i) (ys := (m.take i).map (rowD .u8)) ty_e22 (by first | rfl | assumption) (by first | rfl | assumption) (by first | rfl | assumption) (fun h => absurd h (by decide)) (by omega) (by simp only [List.length_map]; omega) ty_s43 (by decide) wide_grid (ex' := false) (by first | rfl | assumption) (cut_grid) ?_
      refine n_call1 (by decide) (by first | rfl | assumption) (r := .tup [.val (.int .i64 e29), .val (.int .i64 e30)]) (spec_er (es := [gridD .u8 (m.take i)]) (by show [D.er (gridD .u8 (m.take i))] = _; simp only [er_gridD, er_rowD, er_iD]) (sp15 h31)) ?_
      refine n_move (by decide) (v := .tup [.val (.int .i64 e29), .val (.int .i64 e30)]) (by first | rfl | assumption) ?_
      refine n_extract (by decide) (t := .val (.int .i64 e29)) (by first | rfl | assumption) (by first | rfl | assumption) ?_
      refine n_extract (by decide) (t := .val (.int .i64 e30)) (by first | rfl | assumption) (by first | rfl | assumption) ?_
      refine n_assign (by decide) (v := .d (.val (.int .i64 e29))) (by first | rfl | assumption) ?_
      refine n_assign (by decide) (v := .d (.val (.int .i64 e30))) (by first | rfl | assumption) ?_
      refine n_nil ?_
      refine a_seq_region ?_
      refine n_move (by decide) (v := .d ((gridD .u8 m))) (by first | rfl | assumption) ?_
      refine n_move (by decide) (v := .d (.val (.int .i64 ((i : Nat))))) (by first | rfl | assumption) ?_
      refine n_int (by decide) (v := (.int .i64 ((i + 1 : Nat)))) (by first | rfl | assumption) (by first | rfl | assumption) (addC (by omega)) ?_
      refine n_slice (by decide) (l := 0) (q := (i + 1)) (ys := (m.take (i + 1)).map (rowD .u8)) ty_e22 (by first | rfl | assumption) (by first | rfl | assumption) (by first | rfl | assumption) (fun h => absurd h (by decide)) (by omega) (by simp only [List.length_map]; omega) ty_s43 (by decide) wide_grid (ex' := false) (by first | rfl | assumption) (cut_grid) ?_
      refine n_call1 (by decide) (by first | rfl | assumption) (r := .tup [.val (.int .i64 e33), .val (.int .i64 e34)]) (spec_er (es := [gridD .u8 (m.take (i + 1))]) (by show [D.er (gridD .u8 (m.take (i + 1)))] = _; simp only [er_gridD, er_rowD, er_iD]) (sp15 h35)) ?_
      refine n_move (by decide) (v := .tup [.val (.int .i64 e33), .val (.int .i64 e34)]) (by first | rfl | assumption) ?_
      refine n_extract (by decide) (t := .val (.int .i64 e33)) (by first | rfl | assumption) (by first | rfl | assumption) ?_
      refine n_extract (by decide) (t := .val (.int .i64 e34)) (by first | rfl | assumption) (by first | rfl | assumption) ?_
      refine n_assign (by decide) (v := .d (.val (.int .i64 e33))) (by first | rfl | assumption) ?_
      refine n_assign (by decide) (v := .d (.val (.int .i64 e34))) (by first | rfl | assumption) ?_
      refine n_nil ?_
      refine a_seq_region ?_
      refine n_move (by decide) (v := .d (.val (.int .i64 e30))) (by first | rfl | assumption) ?_
      refine n_int (by decide) (v := (.bool false)) (by first | rfl | assumption) (by first | rfl | assumption) (d36) ?_
      refine n_move (by decide) (v := .d (.val (.bool false))) (by first | rfl | assumption) ?_
      refine n_on (by first | rfl | assumption) (by first | rfl | assumption) (by decide) (by first | rfl | assumption) ?_
      refine n_move (by decide) (v := .d (.val (.int .i64 e34))) (by first | rfl | assumption) ?_
      refine n_on (by first | rfl | assumption) (by first | rfl | assumption) (by decide) (by first | rfl | assumption) ?_
      refine n_int (by decide) (v := (.bool false)) (by first | rfl | assumption) (by first | rfl | assumption) (d37) ?_
      refine n_pick (by decide) (b := false) (by first | rfl | assumption) (v := .d (.val (.bool false))) (by first | rfl | assumption) ?_
      refine n_move (by decide) (v := .d (.val (.bool false))) (by first | rfl | assumption) ?_
      refine n_on (by first | rfl | assumption) (by first | rfl | assumption) (by decide) (by first | rfl | assumption) ?_
      refine n_move (by decide) (v := .d (.val (.int .u8 ((r9.getD i 0))))) (by first | rfl | assumption) ?_
      refine n_on (by first | rfl | assumption) (by first | rfl | assumption) (by decide) (by first | rfl | assumption) ?_
      refine n_int (by decide) (v := (.bool false)) (by first | rfl | assumption) (by first | rfl | assumption) (d38) ?_
      refine n_on (by first | rfl | assumption) (by first | rfl | assumption) (by decide) (by first | rfl | assumption) ?_
      refine n_move (by decide) (v := .d (.val (.bool false))) (by first | rfl | assumption) ?_
      refine n_off (by first | rfl | assumption) (by first | rfl | assumption) (by decide) (by first | rfl | assumption) (by decide) (by first | rfl | assumption) (by decide) ?_
      refine n_off (by first | rfl | assumption) (by first | rfl | assumption) (by decide) (by first | rfl | assumption) (by decide) (by first | rfl | assumption) (by decide) ?_
      refine n_off (by first | rfl | assumption) (by first | rfl | assumption) (by decide) (by first | rfl | assumption) (by decide) (by first | rfl | assumption) (by decide) ?_
      refine n_off (by first | rfl | assumption) (by first | rfl | assumption) (by decide) (by first | rfl | assumption) (by decide) (by first | rfl | assumption) (by decide) ?_
      refine n_on (by first | rfl | assumption) (by first | rfl | assumption) (by decide) (by first | rfl | assumption) ?_
      refine n_pick (by decide) (b := false) (by first | rfl | assumption) (v := .d (.val (.bool false))) (by first | rfl | assumption) ?_
      refine n_pick (by decide) (b := false) (by first | rfl | assumption) (v := .d (.val (.bool false))) (by first | rfl | assumption) ?_
      refine n_nil ?_
      refine a_false (by first | rfl | assumption) ?_
      refine a_skip ?_
      refine b_normal ?_
      refine a_region ?_
      refine n_int (by decide) (v := (.int .i64 ((i + 1 : Nat)))) (by first | rfl | assumption) (by first | rfl | assumption) (addC (by omega)) ?_
      refine n_move (by decide) (v := .d (.val (.int .i64 ((i + 1 : Nat))))) (by first | rfl | assumption) ?_
      refine n_nil ?_
      exact l_normal (n - 1) (by omega) ⟨i + 1, by omega, (by first | rfl | assumption), (by first | rfl | assumption), (by first | rfl | assumption), (by first | rfl | assumption), (by first | rfl | assumption)⟩
    · obtain ⟨e42, e43, kh44, e46, e47, kh48, x53, h44, h48, d49, d50, d51, d52, d54⟩ := hL56 i hd hc1
      refine a_seq_region ?_
      refine n_int (by decide) (v := (.bool true)) (by first | rfl | assumption) (by first | rfl | assumption) (lssT (by omega)) ?_
      refine n_nil ?_
      refine a_seq_true (by first | rfl | assumption) ?_
      refine a_seq_skip ?_
      refine a_seq_block ?_
      refine a_seq_region ?_
      refine n_move (by decide) (v := .d (.val (.int .i64 ((i : Nat))))) (by first | rfl | assumption) ?_
      refine n_index (by decide) (y := .val (.int .u8 ((r9.getD i 0)))) ty_u43 (by first | rfl | assumption) (by first | rfl | assumption) ((by omega)) ((by simp only [List.length_map]; omega)) ty_s5 (by decide) (wide_row) (atd_row (by omega)) ?_
      refine n_loadVal (by decide) (y := .val (.int .u8 ((r9.getD i 0)))) ty_r5 (by first | rfl | assumption) (by first | rfl | assumption) ?_
      refine n_assign (by decide) (v := .d (.val (.int .i64 ((i : Nat))))) (by first | rfl | assumption) ?_
      refine n_assign (by decide) (v := .d (.val (.int .u8 ((r9.getD i 0))))) (by first | rfl | assumption) ?_
      refine n_nil ?_
      refine a_seq_region ?_
      refine n_move (by decide) (v := .d ((gridD .u8 m))) (by first | rfl | assumption) ?_
      refine n_move (by decide) (v := .d (.val (.int .i64 ((i : Nat))))) (by first | rfl | assumption) ?_
      refine n_slice (by decide) (l := 0) (q := i) (ys := (m.take i).map (rowD .u8)) ty_e22 (by first | rfl | assumption) (by first | rfl | assumption) (by first | rfl | assumption) (fun h => absurd h (by decide)) (by omega) (by simp only [List.length_map]; omega) ty_s43 (by decide) wide_grid (ex' := false) (by first | rfl | assumption) (cut_grid) ?_
      refine n_call1 (by decide) (by first | rfl | assumption) (r := .tup [.val (.int .i64 e42), .val (.int .i64 e43)]) (spec_er (es := [gridD .u8 (m.take i)]) (by show [D.er (gridD .u8 (m.take i))] = _; simp only [er_gridD, er_rowD, er_iD]) (sp15 h44)) ?_
      refine n_move (by decide) (v := .tup [.val (.int .i64 e42), .val (.int .i64 e43)]) (by first | rfl | assumption) ?_
      refine n_extract (by decide) (t := .val (.int .i64 e42)) (by first | rfl | assumption) (by first | rfl | assumption) ?_
      refine n_extract (by decide) (t := .val (.int .i64 e43)) (by first | rfl | assumption) (by first | rfl | assumption) ?_
      refine n_assign (by decide) (v := .d (.val (.int .i64 e42))) (by first | rfl | assumption) ?_
      refine n_assign (by decide) (v := .d (.val (.int .i64 e43))) (by first | rfl | assumption) ?_
      refine n_nil ?_
      refine a_seq_region ?_
      refine n_move (by decide) (v := .d ((gridD .u8 m))) (by first | rfl | assumption) ?_
      refine n_move (by decide) (v := .d (.val (.int .i64 ((i : Nat))))) (by first | rfl | assumption) ?_
      refine n_int (by decide) (v := (.int .i64 ((i + 1 : Nat)))) (by first | rfl | assumption) (by first | rfl | assumption) (addC (by omega)) ?_
      refine n_slice (by decide) (l := 0) (q := (i + 1)) (ys := (m.take (i + 1)).map (rowD .u8)) ty_e22 (by first | rfl | assumption) (by first | rfl | assumption) (by first | rfl | assumption) (fun h => absurd h (by decide)) (by omega) (by simp only [List.length_map]; omega) ty_s43 (by decide) wide_grid (ex' := false) (by first | rfl | assumption) (cut_grid) ?_
      refine n_call1 (by decide) (by first | rfl | assumption) (r := .tup [.val (.int .i64 e46), .val (.int .i64 e47)]) (spec_er (es := [gridD .u8 (m.take (i + 1))]) (by show [D.er (gridD .u8 (m.take (i + 1)))] = _; simp only [er_gridD, er_rowD, er_iD]) (sp15 h48)) ?_
      refine n_move (by decide) (v := .tup [.val (.int .i64 e46), .val (.int .i64 e47)]) (by first | rfl | assumption) ?_
      refine n_extract (by decide) (t := .val (.int .i64 e46)) (by first | rfl | assumption) (by first | rfl | assumption) ?_
      refine n_extract (by decide) (t := .val (.int .i64 e47)) (by first | rfl | assumption) (by first | rfl | assumption) ?_
      refine n_assign (by decide) (v := .d (.val (.int .i64 e46))) (by first | rfl | assumption) ?_
      refine n_assign (by decide) (v := .d (.val (.int .i64 e47))) (by first | rfl | assumption) ?_
      refine n_nil ?_
      refine a_seq_region ?_
      refine n_move (by decide) (v := .d (.val (.int .i64 e43))) (by first | rfl | assumption) ?_
      refine n_int (by decide) (v := (.bool false)) (by first | rfl | assumption) (by first | rfl | assumption) (d49) ?_
      refine n_move (by decide) (v := .d (.val (.bool false))) (by first | rfl | assumption) ?_
      refine n_on (by first | rfl | assumption) (by first | rfl | assumption) (by decide) (by first | rfl | assumption) ?_
      refine n_move (by decide) (v := .d (.val (.int .i64 e47))) (by first | rfl | assumption) ?_
      refine n_on (by first | rfl | assumption) (by first | rfl | assumption) (by decide) (by first | rfl | assumption) ?_
      refine n_int (by decide) (v := (.bool false)) (by first | rfl | assumption) (by first | rfl | assumption) (d50) ?_
      refine n_pick (by decide) (b := false) (by first | rfl | assumption) (v := .d (.val (.bool false))) (by first | rfl | assumption) ?_
      refine n_move (by decide) (v := .d (.val (.bool false))) (by first | rfl | assumption) ?_
      refine n_on (by first | rfl | assumption) (by first | rfl | assumption) (by decide) (by first | rfl | assumption) ?_
      refine n_move (by decide) (v := .d (.val (.int .u8 ((r9.getD i 0))))) (by first | rfl | assumption) ?_
      refine n_on (by first | rfl | assumption) (by first | rfl | assumption) (by decide) (by first | rfl | assumption) ?_
      refine n_int (by decide) (v := (.bool true)) (by first | rfl | assumption) (by first | rfl | assumption) (d51) ?_
      refine n_on (by first | rfl | assumption) (by first | rfl | assumption) (by decide) (by first | rfl | assumption) ?_
      refine n_move (by decide) (v := .d (.val (.bool true))) (by first | rfl | assumption) ?_
      refine n_on (by first | rfl | assumption) (by first | rfl | assumption) (by decide) (by first | rfl | assumption) ?_
      refine n_move (by decide) (v := .d (.val (.int .i64 e46))) (by first | rfl | assumption) ?_
      refine n_on (by first | rfl | assumption) (by first | rfl | assumption) (by decide) (by first | rfl | assumption) ?_
      refine n_move (by decide) (v := .d (.val (.int .i64 e42))) (by first | rfl | assumption) ?_
      refine n_on (by first | rfl | assumption) (by first | rfl | assumption) (by decide) (by first | rfl | assumption) ?_
      refine n_int (by decide) (v := (.int .i64 x53)) (by first | rfl | assumption) (by first | rfl | assumption) (d52) ?_
      refine n_on (by first | rfl | assumption) (by first | rfl | assumption) (by decide) (by first | rfl | assumption) ?_
      refine n_int (by decide) (v := (.bool false)) (by first | rfl | assumption) (by first | rfl | assumption) (d54) ?_
      refine n_on (by first | rfl | assumption) (by first | rfl | assumption) (by decide) (by first | rfl | assumption) ?_
      refine n_pick (by decide) (b := true) (by first | rfl | assumption) (v := .d (.val (.bool false))) (by first | rfl | assumption) ?_
      refine n_pick (by decide) (b := false) (by first | rfl | assumption) (v := .d (.val (.bool false))) (by first | rfl | assumption) ?_
      refine n_nil ?_
      refine a_false (by first | rfl | assumption) ?_
      refine a_skip ?_
      refine b_normal ?_
      refine a_region ?_
      refine n_int (by decide) (v := (.int .i64 ((i + 1 : Nat)))) (by first | rfl | assumption) (by first | rfl | assumption) (addC (by omega)) ?_
      refine n_move (by decide) (v := .d (.val (.int .i64 ((i + 1 : Nat))))) (by first | rfl | assumption) ?_
      refine n_nil ?_
      exact l_normal (n - 1) (by omega) ⟨i + 1, by omega, (by first | rfl | assumption), (by first | rfl | assumption), (by first | rfl | assumption), (by first | rfl | assumption), (by first | rfl | assumption)⟩
  · refine a_seq_region ?_
    refine n_int (by decide) (v := (.bool false)) (by first | rfl | assumption) (by first | rfl | assumption) (lssF (by omega)) ?_
    refine n_nil ?_
    refine a_seq_false (by first | rfl | assumption) ?_
    refine a_seq_exit ?_
    refine l_exit ?_
    refine a_seq_region ?_
    refine n_call0 (by decide) (r := .d (.val (.bool true))) (sp11) ?_
    refine n_assign (by decide) (v := .d (.val (.bool true))) (by first | rfl | assumption) ?_
    refine n_nil ?_
    exact a_ret ⟨.inr (by first | rfl | assumption), (by first | rfl | assumption)⟩
end Go.Proofs.YtijebgceopddmaaDoor.Ax
end
section
set_option linter.unusedVariables false
namespace QLin
class Fl (F : Type) extends Add F, Mul F where
  zero : F
  one : F
  inv : F → F
  add_assoc : ∀ a b c : F, a + b + c = a + (b + c)
  add_comm : ∀ a b : F, a + b = b + a
  add_zero : ∀ a : F, a + zero = a
  add_self : ∀ a : F, a + a = zero
  mul_assoc : ∀ a b c : F, a * b * c = a * (b * c)
  mul_comm : ∀ a b : F, a * b = b * a
  mul_one : ∀ a : F, a * one = a
  mul_add : ∀ a b c : F, a * (b + c) = a * b + a * c
  mul_inv : ∀ a : F, a ≠ zero → a * inv a = one
  one_ne : one ≠ zero
variable {F : Type} [Fl F]
open Fl
theorem zero_add (a : F) : zero + a = a := by rw [add_comm, add_zero]
theorem one_mul (a : F) : one * a = a := by rw [mul_comm, mul_one]
theorem add_mul (a b c : F) : (a + b) * c = a * c + b * c := by rw [mul_comm, mul_add, mul_comm c a, mul_comm c b]
theorem add_cancel (a b : F) : a + (a + b) = b := by rw [← add_assoc, add_self, zero_add]
theorem mul_zero (a : F) : a * zero = zero := by
  have h : a * (zero + zero) = a * zero + a * zero := mul_add a zero zero
  rw [add_zero, add_self] at h
  exact h
theorem zero_mul (a : F) : zero * a = zero := by rw [mul_comm, mul_zero]
theorem inv_mul (a : F) (h : a ≠ zero) : inv a * a = one := by rw [mul_comm, mul_inv a h]
theorem eq_of_add (a b : F) (h : a + b = zero) : a = b := by
  have : a + (a + b) = a + zero := by rw [h]
  rw [add_cancel, add_zero] at this
  exact this.symm
theorem add_eq_zero {a b : F} (h : a = b) : a + b = zero := by rw [h, add_self]
theorem add4 (a b c d : F) : (a + b) + (c + d) = (a + c) + (b + d) := by
  rw [add_assoc, add_assoc]; congr 1; rw [← add_assoc, ← add_assoc, add_comm b c]
def sum (n : Nat) (f : Nat → F) : F := match n with | 0 => zero | n + 1 => sum n f + f n
theorem sum_succ (n : Nat) (f : Nat → F) : sum (n + 1) f = sum n f + f n := rfl
theorem sum_zero' (f : Nat → F) : sum 0 f = zero := rfl
theorem sum_congr {n : Nat} {f g : Nat → F} (h : ∀ k, k < n → f k = g k) : sum n f = sum n g := by
  induction n with
  | zero => rfl
  | succ n ih => rw [sum_succ, sum_succ, ih fun k hk => h k (by omega), h n (by omega)]
theorem sum_zeros {n : Nat} {f : Nat → F} (h : ∀ k, k < n → f k = zero) : sum n f = zero := by
  induction n with
  | zero => rfl
  | succ n ih => rw [sum_succ, ih fun k hk => h k (by omega), h n (by omega), add_zero]
theorem sum_add (n : Nat) (f g : Nat → F) : (sum n fun k => f k + g k) = sum n f + sum n g := by
  induction n with
  | zero => rw [sum_zero', sum_zero', sum_zero', add_zero]
  | succ n ih => rw [sum_succ, sum_succ, sum_succ, ih, add4]
theorem mul_sum (n : Nat) (a : F) (f : Nat → F) : a * sum n f = sum n fun k => a * f k := by
  induction n with
  | zero => rw [sum_zero', sum_zero', mul_zero]
  | succ n ih => rw [sum_succ, sum_succ, mul_add, ih]
theorem sum_mul (n : Nat) (a : F) (f : Nat → F) : sum n f * a = sum n fun k => f k * a := by
  rw [mul_comm, mul_sum]; exact sum_congr fun k _ => mul_comm _ _
theorem sum_comm (m n : Nat) (f : Nat → Nat → F) : (sum m fun i => sum n fun j => f i j) = sum n fun j => sum m fun i => f i j := by
  induction m with
  | zero => rw [sum_zero']; exact (sum_zeros fun k _ => rfl).symm
  | succ m ih => rw [sum_succ, ih, ← sum_add]; rfl
theorem sum_only {n : Nat} (i : Nat) (hi : i < n) {f : Nat → F} (h : ∀ k, k < n → k ≠ i → f k = zero) : sum n f = f i := by
  induction n with
  | zero => omega
  | succ n ih =>
    rw [sum_succ]
    by_cases e : i = n
    · subst e; rw [sum_zeros fun k hk => h k (by omega) (by omega), zero_add]
    · rw [ih (by omega) fun k hk => h k (by omega), h n (by omega) (fun e' => e e'.symm), add_zero]
theorem sum_more {n m : Nat} (hnm : n ≤ m) {f : Nat → F} (h : ∀ k, n ≤ k → k < m → f k = zero) : sum m f = sum n f := by
  induction m with
  | zero => have : n = 0 := by omega
            rw [this]
  | succ m ih =>
    by_cases e : n = m + 1
    · rw [e]
    · rw [sum_succ, ih (by omega) fun k h1 h2 => h k h1 (by omega), h m (by omega) (by omega), add_zero]
abbrev Vec (F : Type) := Nat → F
abbrev Mat (F : Type) := Nat → Nat → F
def comb (m : Nat) (a : Vec F) (M : Mat F) : Vec F := fun c => sum m fun k => a k * M k c
def InSpan (m : Nat) (M : Mat F) (v : Vec F) : Prop := ∃ a : Vec F, v = comb m a M
theorem InSpan.row {m : Nat} {M : Mat F} {k : Nat} (hk : k < m) : InSpan m M (M k) := by
  refine ⟨fun i => if i = k then one else zero, funext fun c => ?_⟩
  show M k c = sum m _
  rw [sum_only k hk (fun i _ hi => by simp [hi, zero_mul])]; simp [one_mul]
theorem InSpan.zero {m : Nat} {M : Mat F} : InSpan m M (fun _ => zero) :=
  ⟨fun _ => Fl.zero, funext fun _ => (sum_zeros fun _ _ => zero_mul _).symm⟩
theorem InSpan.add {m : Nat} {M : Mat F} {v w : Vec F} (hv : InSpan m M v) (hw : InSpan m M w) : InSpan m M (fun c => v c + w c) := by
  obtain ⟨a, rfl⟩ := hv; obtain ⟨b, rfl⟩ := hw
  refine ⟨fun k => a k + b k, funext fun c => ?_⟩
  show sum m _ + sum m _ = sum m _
  rw [← sum_add]; exact sum_congr fun k _ => (add_mul _ _ _).symm
theorem InSpan.smul {m : Nat} {M : Mat F} {v : Vec F} (s : F) (hv : InSpan m M v) : InSpan m M (fun c => s * v c) := by
  obtain ⟨a, rfl⟩ := hv
  refine ⟨fun k => s * a k, funext fun c => ?_⟩
  show s * sum m _ = sum m _
  rw [mul_sum]; exact sum_congr fun k _ => (mul_assoc _ _ _).symm
theorem InSpan.comb {m n : Nat} {M N : Mat F} (a : Vec F) (h : ∀ k, k < n → InSpan m M (N k)) : InSpan m M (comb n a N) := by
  induction n with
  | zero => exact InSpan.zero
  | succ n ih => exact InSpan.add (ih fun k hk => h k (by omega)) (InSpan.smul (a n) (h n (by omega)))
theorem InSpan.sub {m n : Nat} {M N : Mat F} (h : ∀ k, k < n → InSpan m M (N k)) {v : Vec F} (hv : InSpan n N v) : InSpan m M v := by
  obtain ⟨a, rfl⟩ := hv; exact InSpan.comb a h
theorem InSpan.congr {m : Nat} {M N : Mat F} (h : ∀ k, k < m → ∀ c, M k c = N k c) {v : Vec F} (hv : InSpan m M v) : InSpan m N v :=
  InSpan.sub (fun k hk => by
    have : M k = N k := funext (h k hk)
    rw [this]; exact InSpan.row hk) hv
theorem InSpan.more {m n : Nat} (hmn : m ≤ n) {M : Mat F} {v : Vec F} (hv : InSpan m M v) : InSpan n M v :=
  InSpan.sub (fun _ hk => InSpan.row (by omega)) hv
structure Rref (n r : Nat) (p : Nat → Nat) (R : Mat F) : Prop where
  lt : ∀ j, j < r → p j < n
  mono : ∀ i j, i < j → j < r → p i < p j
  piv : ∀ i j, i < r → j < r → R j (p i) = if i = j then one else zero
  low : ∀ j c, j < r → c < p j → R j c = zero
  wide : ∀ j c, j < r → n ≤ c → R j c = zero
theorem Rref.inj {n r : Nat} {p : Nat → Nat} {R : Mat F} (h : Rref n r p R) {i j : Nat} (hi : i < r) (hj : j < r) (e : p i = p j) : i = j := by
  rcases Nat.lt_trichotomy i j with h' | h' | h'
  · have := h.mono i j h' hj; omega
  · exact h'
  · have := h.mono j i h' hi; omega
theorem Rref.coef {n r : Nat} {p : Nat → Nat} {R : Mat F} (h : Rref n r p R) {v : Vec F} (hv : InSpan r R v) : v = comb r (fun j => v (p j)) R := by
  obtain ⟨a, rfl⟩ := hv
  have key : ∀ j, j < r → comb r a R (p j) = a j := fun j hj => by
    show sum r _ = a j
    rw [sum_only j hj (fun k hk hne => by rw [h.piv j k hj hk, if_neg (fun e => hne e.symm), mul_zero]), h.piv j j hj hj, if_pos rfl, mul_one]
  funext c
  exact sum_congr fun k hk => by show a k * R k c = comb r a R (p k) * R k c; rw [key k hk]
def Lead (v : Vec F) (c : Nat) : Prop := v c ≠ zero ∧ ∀ d, d < c → v d = zero
theorem Lead.uniq {v : Vec F} {c d : Nat} (h : Lead v c) (k : Lead v d) : c = d := by
  rcases Nat.lt_trichotomy c d with h' | h' | h'
  · exact absurd (k.2 c h') h.1
  · exact h'
  · exact absurd (h.2 d h') k.1
theorem Rref.lead_row {n r : Nat} {p : Nat → Nat} {R : Mat F} (h : Rref n r p R) {j : Nat} (hj : j < r) : Lead (R j) (p j) :=
  ⟨by rw [h.piv j j hj hj, if_pos rfl]; exact one_ne, fun d hd => h.low j d hj hd⟩
theorem first_of (r : Nat) (P : Nat → Prop) [DecidablePred P] : (∃ j, j < r ∧ P j ∧ ∀ i, i < j → ¬ P i) ∨ ∀ j, j < r → ¬ P j := by
  induction r with
  | zero => exact .inr fun j hj => by omega
  | succ r ih =>
    rcases ih with ⟨j, hj, h⟩ | h
    · exact .inl ⟨j, by omega, h⟩
    · by_cases hp : P r
      · exact .inl ⟨r, by omega, hp, fun i hi => h i hi⟩
      · exact .inr fun j hj => by
          by_cases e : j = r
          · rw [e]; exact hp
          · exact h j (by omega)
open Classical in
theorem Rref.lead_in {n r : Nat} {p : Nat → Nat} {R : Mat F} (h : Rref n r p R) {v : Vec F} (hv : InSpan r R v) : (∃ j, j < r ∧ Lead v (p j)) ∨ v = fun _ => zero := by
  rcases first_of r (fun j => v (p j) ≠ zero) with ⟨j, hj, hne, hlow⟩ | hall
  · refine .inl ⟨j, hj, hne, fun d hd => ?_⟩
    rw [h.coef hv]
    refine sum_zeros fun k hk => ?_
    show v (p k) * R k d = zero
    by_cases hkj : k < j
    · rw [Classical.not_not.1 (hlow k hkj), zero_mul]
    · have : p j ≤ p k := by
        by_cases e : j = k
        · rw [e]; exact Nat.le_refl _
        · exact Nat.le_of_lt (h.mono j k (by omega) hk)
      rw [h.low k d hk (by omega), mul_zero]
  · refine .inr ?_
    rw [h.coef hv]
    funext c
    exact sum_zeros fun k hk => by
      show v (p k) * R k c = zero
      rw [Classical.not_not.1 (hall k hk), zero_mul]
theorem le_of_inj : ∀ (r s : Nat) (f : Nat → Nat), (∀ i, i < r → f i < s) → (∀ i j, i < r → j < r → f i = f j → i = j) → r ≤ s
  | 0, _, _, _, _ => by omega
  | r + 1, 0, f, hf, _ => absurd (hf 0 (by omega)) (by omega)
  | r + 1, s + 1, f, hf, hinj => by
    have := le_of_inj r s (fun i => if f i = s then f r else f i)
      (fun i hi => by
        have h1 := hf i (by omega)
        have h2 := hf r (by omega)
        show (if f i = s then f r else f i) < s
        split
        · rename_i e
          have : f r ≠ s := fun e' => by have := hinj i r (by omega) (by omega) (by omega); omega
          omega
        · omega)
      (fun i j hi hj e => by
        have hij := hinj i j (by omega) (by omega)
        have h1 := hinj i r (by omega) (by omega)
        have h2 := hinj j r (by omega) (by omega)
        split at e <;> split at e
        · exact hij (by omega)
        · exact absurd (h2 e.symm) (by omega)
        · exact absurd (h1 e) (by omega)
        · exact hij e)
    omega
theorem Rref.sub_lead {n r s : Nat} {p q : Nat → Nat} {R S : Mat F} (hR : Rref n r p R) (hS : Rref n s q S) (h : ∀ j, j < r → InSpan s S (R j)) {j : Nat} (hj : j < r) : ∃ i, i < s ∧ q i = p j := by
  have hl := hR.lead_row hj
  rcases hS.lead_in (h j hj) with ⟨i, hi, hli⟩ | h0
  · exact ⟨i, hi, hli.uniq hl⟩
  · exact absurd (by rw [h0]) hl.1
theorem Rref.rank_le {n r s : Nat} {p q : Nat → Nat} {R S : Mat F} (hR : Rref n r p R) (hS : Rref n s q S) (h : ∀ j, j < r → InSpan s S (R j)) : r ≤ s := by
  have hx : ∀ j, ∃ i, j < r → i < s ∧ q i = p j := fun j => by
    by_cases hj : j < r
    · obtain ⟨i, hi⟩ := hR.sub_lead hS h hj; exact ⟨i, fun _ => hi⟩
    · exact ⟨0, fun h => absurd h hj⟩
  have hf := fun j => Classical.choose_spec (hx j)
  refine le_of_inj r s (fun j => Classical.choose (hx j)) (fun i hi => (hf i hi).1) (fun i j hi hj e => ?_)
  have h1 := (hf i hi).2
  have h2 := (hf j hj).2
  have e : Classical.choose (hx i) = Classical.choose (hx j) := e
  rw [e] at h1
  exact hR.inj hi hj (by omega)
theorem Rref.full {n r : Nat} {p q : Nat → Nat} {R S : Mat F} (hR : Rref n r p R) (hS : Rref n r q S) (h : ∀ j, j < r → InSpan r S (R j)) : ∀ v, InSpan r S v → InSpan r R v := by
  intro v hv
  -- every pivot of S is one of R
  have hall : ∀ i, i < r → ∃ j, j < r ∧ p j = q i := by
    intro i hi
    apply Classical.byContradiction
    intro hno
    have hx : ∀ j, ∃ i', j < r → i' < r ∧ q i' = p j := fun j => by
      by_cases hj : j < r
      · obtain ⟨i', hi'⟩ := hR.sub_lead hS h hj; exact ⟨i', fun _ => hi'⟩
      · exact ⟨0, fun h => absurd h hj⟩
    have hf := fun j => Classical.choose_spec (hx j)
    have := le_of_inj (r + 1) r (fun j => if j = r then i else Classical.choose (hx j))
      (fun j hj => by
        show (if j = r then i else Classical.choose (hx j)) < r
        split
        · exact hi
        · exact (hf j (by omega)).1)
      (fun a b ha hb e => by
        have e : (if a = r then i else Classical.choose (hx a)) = (if b = r then i else Classical.choose (hx b)) := e
        split at e <;> split at e
        · omega
        · exact absurd ⟨b, by omega, by have := (hf b (by omega)).2; rw [← e] at this; exact this.symm⟩ hno
        · exact absurd ⟨a, by omega, by have := (hf a (by omega)).2; rw [e] at this; exact this.symm⟩ hno
        · have h1 := (hf a (by omega)).2
          have h2 := (hf b (by omega)).2
          rw [e] at h1
          exact hR.inj (by omega) (by omega) (by omega))
    omega
  -- what is left of v behind R's part has no pivot
  have hw : InSpan r S (fun c => v c + comb r (fun j => v (p j)) R c) := InSpan.add hv (InSpan.comb _ h)
  rcases hS.lead_in hw with ⟨i, hi, hl⟩ | h0
  · obtain ⟨j, hj, e⟩ := hall i hi
    refine absurd ?_ hl.1
    show v (q i) + sum r _ = zero
    rw [← e, sum_only j hj (fun k hk hne => by rw [hR.piv j k hj hk, if_neg (fun e => hne e.symm), mul_zero]), hR.piv j j hj hj, if_pos rfl, mul_one, add_self]
  · have : v = comb r (fun j => v (p j)) R := funext fun c => eq_of_add _ _ (congrFun h0 c)
    rw [this]
    exact InSpan.comb _ fun k hk => InSpan.row hk
def clear (M : Mat F) (r k c : Nat) : Mat F := fun i j =>
  if i = r then inv (M k c) * M k j else (if i = k then M r j else M i j) + (if i = k then M r c else M i c) * (inv (M k c) * M k j)
structure Part (n m c r : Nat) (p : Nat → Nat) (M0 M : Mat F) : Prop where
  fwd : ∀ k, k < m → InSpan m M0 (M k)
  back : ∀ k, k < m → InSpan m M (M0 k)
  le : r ≤ m
  lt : ∀ j, j < r → p j < c
  mono : ∀ i j, i < j → j < r → p i < p j
  piv : ∀ i j, i < r → j < m → M j (p i) = if i = j then one else zero
  low : ∀ j d, j < r → d < p j → M j d = zero
  rest : ∀ j d, r ≤ j → j < m → d < c → M j d = zero
  wide : ∀ j d, j < m → n ≤ d → M j d = zero
theorem Part.start {n m : Nat} (p : Nat → Nat) (M : Mat F) (hw : ∀ j d, j < m → n ≤ d → M j d = zero) : Part n m 0 0 p M M :=
  ⟨fun _ hk => InSpan.row hk, fun _ hk => InSpan.row hk, by omega, fun j hj => by omega, fun i j _ hj => by omega, fun i j hi => by omega, fun j d hj => by omega, fun j d _ _ hd => by omega, hw⟩
theorem Part.skip {n m c r : Nat} {p : Nat → Nat} {M0 M : Mat F} (h : Part n m c r p M0 M) (hz : ∀ k, r ≤ k → k < m → M k c = zero) : Part n m (c + 1) r p M0 M :=
  ⟨h.fwd, h.back, h.le, fun j hj => by have := h.lt j hj; omega, h.mono, h.piv, h.low, fun j d h1 h2 h3 => by
    by_cases e : d = c
    · rw [e]; exact hz j h1 h2
    · exact h.rest j d h1 h2 (by omega), h.wide⟩
theorem Part.step {n m c r k : Nat} {p : Nat → Nat} {M0 M : Mat F} (h : Part n m c r p M0 M) (hr : r ≤ k) (hk : k < m) (hne : M k c ≠ zero) (p' : Nat → Nat) (hp : ∀ j, j < r → p' j = p j) (hpr : p' r = c) :
    Part n m (c + 1) (r + 1) p' M0 (clear M r k c) := by
  have hP : InSpan m M (fun j => inv (M k c) * M k j) := InSpan.smul _ (InSpan.row hk)
  -- the rows of the new matrix lie in the old one's span
  have hnew : ∀ i, i < m → InSpan m M (clear M r k c i) := by
    intro i hi
    by_cases e : i = r
    · have : clear M r k c i = fun j => inv (M k c) * M k j := by funext j; simp [clear, e]
      rw [this]; exact hP
    · by_cases e' : i = k
      · have : clear M r k c i = fun j => M r j + M r c * (inv (M k c) * M k j) := by funext j; simp [clear, e', show k ≠ r from fun x => e (by omega)]
        rw [this]; exact InSpan.add (InSpan.row (by omega)) (InSpan.smul _ hP)
      · have : clear M r k c i = fun j => M i j + M i c * (inv (M k c) * M k j) := by funext j; simp [clear, e, e']
        rw [this]; exact InSpan.add (InSpan.row hi) (InSpan.smul _ hP)
  have hPr : InSpan m (clear M r k c) (fun j => inv (M k c) * M k j) := by
    have : clear M r k c r = fun j => inv (M k c) * M k j := by funext j; simp [clear]
    rw [← this]; exact InSpan.row (by omega)
  have hold : ∀ i, i < m → InSpan m (clear M r k c) (M i) := by
    intro i hi
    by_cases ek : i = k
    · have : M i = fun j => M k c * (inv (M k c) * M k j) := by funext j; rw [ek, ← mul_assoc, mul_inv _ hne, one_mul]
      rw [this]; exact InSpan.smul _ hPr
    · -- the place where M i went
      let i' := if i = r then k else i
      have hi'm : i' < m := by simp only [i']; split <;> omega
      have hi'r : i' ≠ r := by simp only [i']; split <;> omega
      have hrow : ∀ j, clear M r k c i' j = M i j + M i c * (inv (M k c) * M k j) := by
        intro j
        by_cases er : i = r
        · have h2 : i' = k := by simp [i', er]
          have : k ≠ r := fun x => ek (by omega)
          simp [clear, h2, this, er]
        · have h2 : i' = i := by simp [i', er]
          simp [clear, h2, er, ek]
      have : M i = fun j => clear M r k c i' j + M i c * (inv (M k c) * M k j) := by
        funext j; rw [hrow j, add_assoc, add_self, add_zero]
      rw [this]; exact InSpan.add (InSpan.row hi'm) (InSpan.smul _ hPr)
  have hkc : ∀ d, d < c → M k d = zero := fun d hd => h.rest k d hr hk hd
  have hpiv : ∀ i j, i < r → j < m → clear M r k c j (p i) = if i = j then one else zero := by
    intro i j hi hj
    have h1 : M k (p i) = zero := hkc _ (h.lt i hi)
    unfold clear
    by_cases e : j = r
    · rw [if_pos e, h1, mul_zero, if_neg (by omega)]
    · rw [if_neg e, h1, mul_zero, mul_zero, add_zero]
      by_cases ek : j = k
      · rw [if_pos ek, h.piv i r hi (by omega), if_neg (by omega), if_neg (by omega)]
      · rw [if_neg ek, h.piv i j hi hj]
  refine ⟨fun i hi => InSpan.sub h.fwd (hnew i hi), fun i hi => InSpan.sub hold (h.back i hi), by omega, ?_, ?_, ?_, ?_, ?_, ?_⟩
  · intro j hj
    by_cases e : j = r
    · rw [e, hpr]; omega
    · rw [hp j (by omega)]; have := h.lt j (by omega); omega
  · intro i j hij hj
    by_cases e : j = r
    · rw [e, hpr, hp i (by omega)]; exact h.lt i (by omega)
    · rw [hp j (by omega), hp i (by omega)]; exact h.mono i j hij (by omega)
  · intro i j hi hj
    by_cases e : i = r
    · rw [e, hpr]
      unfold clear
      by_cases e' : j = r
      · rw [if_pos e', if_pos e'.symm, inv_mul _ hne]
      · rw [if_neg e', if_neg (fun x : r = j => e' x.symm), inv_mul _ hne, mul_one, add_self]
    · rw [hp i (by omega), hpiv i j (by omega) hj]
  · intro j d hj hd
    by_cases e : j = r
    · subst e; rw [hpr] at hd; unfold clear; rw [if_pos rfl, hkc d hd, mul_zero]
    · rw [hp j (by omega)] at hd
      have hlt := h.lt j (by omega)
      unfold clear
      rw [if_neg e, if_neg (by omega), if_neg (by omega), hkc d (by omega), mul_zero, mul_zero, add_zero, h.low j d (by omega) hd]
  · intro j d h1 h2 h3
    unfold clear
    rw [if_neg (by omega)]
    by_cases e : d = c
    · subst e; rw [inv_mul _ hne, mul_one, add_self]
    · rw [hkc d (by omega), mul_zero, mul_zero, add_zero]
      split
      · exact h.rest r d (by omega) (by omega) (by omega)
      · exact h.rest j d (by omega) h2 (by omega)
  · intro j d hj hd
    unfold clear
    rw [h.wide k d hk hd, mul_zero, mul_zero]
    by_cases e : j = r
    · rw [if_pos e]
    · rw [if_neg e, add_zero]
      split
      · exact h.wide r d (by omega) hd
      · exact h.wide j d hj hd
theorem Part.rref {n m r : Nat} {p : Nat → Nat} {M0 M : Mat F} (h : Part n m n r p M0 M) : Rref n r p M ∧ (∀ v, InSpan m M0 v ↔ InSpan r M v) := by
  refine ⟨⟨h.lt, h.mono, fun i j hi hj => h.piv i j hi (by have := h.le; omega), h.low, fun j c hj hc => h.wide j c (by have := h.le; omega) hc⟩, fun v => ⟨fun hv => ?_, fun hv => ?_⟩⟩
  · have hv' : InSpan m M v := InSpan.sub h.back hv
    refine InSpan.sub (fun k hk => ?_) hv'
    by_cases e : k < r
    · exact InSpan.row e
    · have : M k = fun _ => zero := by
        funext c
        by_cases hc : c < n
        · exact h.rest k c (by omega) hk hc
        · exact h.wide k c hk (by omega)
      rw [this]; exact InSpan.zero
  · exact InSpan.sub h.fwd (InSpan.more h.le hv)
open Classical in
theorem exists_part {n m : Nat} (M : Mat F) (hw : ∀ j d, j < m → n ≤ d → M j d = zero) : ∀ c, c ≤ n → ∃ r p N, Part n m c r p M N
  | 0, _ => ⟨0, id, M, Part.start id M hw⟩
  | c + 1, hc => by
    obtain ⟨r, p, N, h⟩ := exists_part M hw c (by omega)
    rcases first_of m (fun k => r ≤ k ∧ N k c ≠ zero) with ⟨k, hk, ⟨hr, hne⟩, _⟩ | hall
    · exact ⟨r + 1, fun j => if j = r then c else p j, _, h.step hr hk hne _ (fun j hj => by simp [show j ≠ r by omega]) (by simp)⟩
    · exact ⟨r, p, N, h.skip fun k h1 h2 => Classical.not_not.1 fun hne => hall k h2 ⟨h1, hne⟩⟩
theorem exists_rref {n m : Nat} (M : Mat F) (hw : ∀ j d, j < m → n ≤ d → M j d = zero) : ∃ r p R, r ≤ m ∧ Rref n r p R ∧ ∀ v, InSpan m M v ↔ InSpan r R v := by
  obtain ⟨r, p, N, h⟩ := exists_part M hw n (Nat.le_refl _)
  exact ⟨r, p, N, h.le, h.rref⟩
def HasRank (n m : Nat) (M : Mat F) (r : Nat) : Prop := ∃ p R, Rref n r p R ∧ ∀ v, InSpan m M v ↔ InSpan r R v
theorem HasRank.mono {n m k r s : Nat} {M N : Mat F} (h : HasRank n m M r) (h' : HasRank n k N s) (hs : ∀ j, j < m → InSpan k N (M j)) : r ≤ s := by
  obtain ⟨p, R, hR, e⟩ := h; obtain ⟨q, S, hS, e'⟩ := h'
  exact hR.rank_le hS fun j hj => (e' _).1 (InSpan.sub hs ((e _).2 (InSpan.row hj)))
theorem HasRank.uniq {n m k r s : Nat} {M N : Mat F} (h : HasRank n m M r) (h' : HasRank n k N s) (h1 : ∀ j, j < m → InSpan k N (M j)) (h2 : ∀ j, j < k → InSpan m M (N j)) : r = s :=
  Nat.le_antisymm (h.mono h' h1) (h'.mono h h2)
theorem HasRank.le_rows {n m r : Nat} {M : Mat F} (h : HasRank n m M r) (hw : ∀ j d, j < m → n ≤ d → M j d = zero) : r ≤ m := by
  obtain ⟨s, p, R, hs, hR, e⟩ := exists_rref M hw
  exact Nat.le_trans (h.mono ⟨p, R, hR, e⟩ fun j hj => InSpan.row hj) hs
theorem HasRank.le_cols {n m r : Nat} {M : Mat F} (h : HasRank n m M r) : r ≤ n := by
  obtain ⟨p, R, hR, _⟩ := h
  exact le_of_inj r n p hR.lt fun i j hi hj e => hR.inj hi hj e
theorem exists_rank {n m : Nat} (M : Mat F) (hw : ∀ j d, j < m → n ≤ d → M j d = zero) : ∃ r, HasRank n m M r := by
  obtain ⟨r, p, R, _, hR, e⟩ := exists_rref M hw
  exact ⟨r, p, R, hR, e⟩
theorem HasRank.same {n m k r : Nat} {M N : Mat F} (h : HasRank n m M r) (hs : HasRank n k N r) (hsub : ∀ j, j < m → InSpan k N (M j)) : ∀ v, InSpan k N v → InSpan m M v := by
  obtain ⟨p, R, hR, e⟩ := h; obtain ⟨q, S, hS, e'⟩ := hs
  intro v hv
  exact (e v).2 (hR.full hS (fun j hj => (e' _).1 (InSpan.sub hsub ((e _).2 (InSpan.row hj)))) v ((e' v).1 hv))
def mul (k : Nat) (A B : Mat F) : Mat F := fun i j => sum k fun t => A i t * B t j
def tr (A : Mat F) : Mat F := fun i j => A j i
end QLin
end
section
set_option linter.unusedVariables false
namespace QGf
def mulx (a : Nat) : Nat := if 255 < 2 * a then (2 * a) ^^^ 285 else 2 * a
def pwx (a : Nat) : Nat → Nat
  | 0 => a
  | k + 1 => mulx (pwx a k)
def bitx (a b k : Nat) : Nat := if b.testBit k then pwx a k else 0
def gm (a b : Nat) : Nat := bitx a b 0 ^^^ bitx a b 1 ^^^ bitx a b 2 ^^^ bitx a b 3 ^^^ bitx a b 4 ^^^ bitx a b 5 ^^^ bitx a b 6 ^^^ bitx a b 7
def sq (a : Nat) : Nat := gm a a
def ginv (a : Nat) : Nat :=
  let a1 := sq a
  let a2 := sq a1
  let a3 := sq a2
  let a4 := sq a3
  let a5 := sq a4
  let a6 := sq a5
  let a7 := sq a6
  gm a1 (gm a2 (gm a3 (gm a4 (gm a5 (gm a6 a7)))))
theorem xor_lt {a b : Nat} (ha : a < 256) (hb : b < 256) : a ^^^ b < 256 := Nat.xor_lt_two_pow (n := 8) ha hb
theorem mulx_lt : ∀ a, a < 256 → mulx a < 256 := by decide +kernel
theorem mulx_eq : ∀ a, a < 256 → mulx a = (2 * a) ^^^ (if a.testBit 7 then 285 else 0) := by decide +kernel
theorem two_xor (a b : Nat) : 2 * (a ^^^ b) = (2 * a) ^^^ (2 * b) := by
  apply Nat.eq_of_testBit_eq
  intro i
  cases i with
  | zero => simp [Nat.testBit_zero]
  | succ i => rw [Nat.testBit_xor, Nat.testBit_succ, Nat.testBit_succ, Nat.testBit_succ, Nat.mul_div_cancel_left _ (by omega), Nat.mul_div_cancel_left _ (by omega), Nat.mul_div_cancel_left _ (by omega), Nat.testBit_xor]
theorem xor4 (a b c d : Nat) : (a ^^^ b) ^^^ (c ^^^ d) = (a ^^^ c) ^^^ (b ^^^ d) := by ac_rfl
theorem mulx_xor {a b : Nat} (ha : a < 256) (hb : b < 256) : mulx (a ^^^ b) = mulx a ^^^ mulx b := by
  rw [mulx_eq _ (xor_lt ha hb), mulx_eq a ha, mulx_eq b hb, two_xor, xor4, Nat.testBit_xor]
  congr 1
  cases a.testBit 7 <;> cases b.testBit 7 <;> rfl
theorem pwx_lt {a : Nat} (ha : a < 256) (k : Nat) : pwx a k < 256 := by
  induction k with
  | zero => exact ha
  | succ k ih => exact mulx_lt _ ih
theorem pwx_xor {a b : Nat} (ha : a < 256) (hb : b < 256) (k : Nat) : pwx (a ^^^ b) k = pwx a k ^^^ pwx b k := by
  induction k with
  | zero => rfl
  | succ k ih => show mulx _ = mulx _ ^^^ mulx _; rw [ih, mulx_xor (pwx_lt ha k) (pwx_lt hb k)]
theorem bitx_lt {a : Nat} (ha : a < 256) (b k : Nat) : bitx a b k < 256 := by
  unfold bitx; split
  · exact pwx_lt ha k
  · omega
theorem gm_lt {a : Nat} (ha : a < 256) (b : Nat) : gm a b < 256 := by
  have h := bitx_lt ha b
  exact xor_lt (xor_lt (xor_lt (xor_lt (xor_lt (xor_lt (xor_lt (h 0) (h 1)) (h 2)) (h 3)) (h 4)) (h 5)) (h 6)) (h 7)
theorem bitx_left {a b : Nat} (ha : a < 256) (hb : b < 256) (c k : Nat) : bitx (a ^^^ b) c k = bitx a c k ^^^ bitx b c k := by
  unfold bitx; split
  · exact pwx_xor ha hb k
  · rfl
theorem bitx_right (a b c k : Nat) : bitx a (b ^^^ c) k = bitx a b k ^^^ bitx a c k := by
  unfold bitx; rw [Nat.testBit_xor]
  cases b.testBit k <;> cases c.testBit k <;> simp
theorem gm_left {a b : Nat} (ha : a < 256) (hb : b < 256) (c : Nat) : gm (a ^^^ b) c = gm a c ^^^ gm b c := by
  unfold gm; simp only [bitx_left ha hb]; ac_rfl
theorem gm_right (a b c : Nat) : gm a (b ^^^ c) = gm a b ^^^ gm a c := by
  unfold gm; simp only [bitx_right]; ac_rfl
def part (x k : Nat) : Nat := if x.testBit k then 2 ^ k else 0
theorem parts : ∀ x, x < 256 → x = part x 0 ^^^ part x 1 ^^^ part x 2 ^^^ part x 3 ^^^ part x 4 ^^^ part x 5 ^^^ part x 6 ^^^ part x 7 := by decide +kernel
theorem part_lt : ∀ x k, k < 8 → part x k < 256 := by
  intro x k hk
  unfold part; split
  · exact Nat.pow_lt_pow_right (a := 2) (n := 8) (by omega) hk
  · omega
theorem lin_ext (f g : Nat → Nat) (hf : ∀ x y, x < 256 → y < 256 → f (x ^^^ y) = f x ^^^ f y) (hg : ∀ x y, x < 256 → y < 256 → g (x ^^^ y) = g x ^^^ g y)
    (h : ∀ k, k < 8 → f (2 ^ k) = g (2 ^ k)) : ∀ x, x < 256 → f x = g x := by
  intro x hx
  have f0 : f 0 = 0 := by have := hf 0 0 (by omega) (by omega); simpa using this
  have g0 : g 0 = 0 := by have := hg 0 0 (by omega) (by omega); simpa using this
  have hp : ∀ k, k < 8 → f (part x k) = g (part x k) := by
    intro k hk
    unfold part; split
    · exact h k hk
    · rw [f0, g0]
  have l := part_lt x
  have l1 := xor_lt (l 0 (by omega)) (l 1 (by omega))
  have l2 := xor_lt l1 (l 2 (by omega))
  have l3 := xor_lt l2 (l 3 (by omega))
  have l4 := xor_lt l3 (l 4 (by omega))
  have l5 := xor_lt l4 (l 5 (by omega))
  have l6 := xor_lt l5 (l 6 (by omega))
  rw [parts x hx]
  rw [hf _ _ l6 (l 7 (by omega)), hf _ _ l5 (l 6 (by omega)), hf _ _ l4 (l 5 (by omega)), hf _ _ l3 (l 4 (by omega)), hf _ _ l2 (l 3 (by omega)), hf _ _ l1 (l 2 (by omega)), hf _ _ (l 0 (by omega)) (l 1 (by omega))]
  rw [hg _ _ l6 (l 7 (by omega)), hg _ _ l5 (l 6 (by omega)), hg _ _ l4 (l 5 (by omega)), hg _ _ l3 (l 4 (by omega)), hg _ _ l2 (l 3 (by omega)), hg _ _ l1 (l 2 (by omega)), hg _ _ (l 0 (by omega)) (l 1 (by omega))]
  rw [hp 0 (by omega), hp 1 (by omega), hp 2 (by omega), hp 3 (by omega), hp 4 (by omega), hp 5 (by omega), hp 6 (by omega), hp 7 (by omega)]
theorem comm_bits : ∀ i, i < 8 → ∀ j, j < 8 → gm (2 ^ i) (2 ^ j) = gm (2 ^ j) (2 ^ i) := by decide +kernel
theorem gm_comm {a b : Nat} (ha : a < 256) (hb : b < 256) : gm a b = gm b a := by
  refine lin_ext (fun y => gm a y) (fun y => gm y a) (fun x y _ _ => gm_right a x y) (fun x y hx hy => gm_left hx hy a) (fun j hj => ?_) b hb
  exact lin_ext (fun x => gm x (2 ^ j)) (fun x => gm (2 ^ j) x) (fun x y hx hy => gm_left hx hy _) (fun x y _ _ => gm_right _ x y) (fun i hi => comm_bits i hi j hj) a ha
theorem assoc_bits : ∀ i, i < 8 → ∀ j, j < 8 → ∀ k, k < 8 → gm (gm (2 ^ i) (2 ^ j)) (2 ^ k) = gm (2 ^ i) (gm (2 ^ j) (2 ^ k)) := by decide +kernel
theorem gm_assoc {a b c : Nat} (ha : a < 256) (hb : b < 256) (hc : c < 256) : gm (gm a b) c = gm a (gm b c) := by
  refine lin_ext (fun z => gm (gm a b) z) (fun z => gm a (gm b z)) (fun x y _ _ => gm_right _ x y) (fun x y _ _ => by simp only [gm_right]) (fun k hk => ?_) c hc
  refine lin_ext (fun y => gm (gm a y) (2 ^ k)) (fun y => gm a (gm y (2 ^ k))) (fun x y _ _ => by simp only [gm_right]; exact gm_left (gm_lt ha _) (gm_lt ha _) _) (fun x y hx hy => by simp only [gm_left hx hy, gm_right]) (fun j hj => ?_) b hb
  exact lin_ext (fun x => gm (gm x (2 ^ j)) (2 ^ k)) (fun x => gm x (gm (2 ^ j) (2 ^ k))) (fun x y hx hy => by simp only [gm_left hx hy]; exact gm_left (gm_lt hx _) (gm_lt hy _) _) (fun x y hx hy => gm_left hx hy _) (fun i hi => assoc_bits i hi j hj k hk) a ha
theorem gm_one : ∀ a, a < 256 → gm a 1 = a := by decide +kernel
theorem gm_inv : ∀ a, a < 256 → a ≠ 0 → gm a (ginv a) = 1 := by decide +kernel
theorem ginv_lt : ∀ a, a < 256 → ginv a < 256 := by decide +kernel
theorem gm_zero (a : Nat) : gm a 0 = 0 := by have := gm_right a 0 0; simpa using this
theorem zero_gm {a : Nat} (ha : a < 256) : gm 0 a = 0 := by rw [gm_comm (by omega) ha, gm_zero]
structure B where
  v : Nat
  lt : v < 256
theorem B.same {a b : B} (h : a.1 = b.1) : a = b := by cases a; cases b; simp only at h; subst h; rfl
def toB (n : Nat) : B := ⟨n % 256, Nat.mod_lt _ (by omega)⟩
theorem toB_val {n : Nat} (h : n < 256) : (toB n).1 = n := Nat.mod_eq_of_lt h
theorem toB_self (b : B) : toB b.1 = b := B.same (toB_val b.2)
instance : QLin.Fl B where
  add a b := ⟨a.1 ^^^ b.1, xor_lt a.2 b.2⟩
  mul a b := ⟨gm a.1 b.1, gm_lt a.2 b.1⟩
  zero := ⟨0, by omega⟩
  one := ⟨1, by omega⟩
  inv a := ⟨ginv a.1, ginv_lt a.1 a.2⟩
  add_assoc a b c := B.same (Nat.xor_assoc _ _ _)
  add_comm a b := B.same (Nat.xor_comm _ _)
  add_zero a := B.same (Nat.xor_zero _)
  add_self a := B.same (Nat.xor_self _)
  mul_assoc a b c := B.same (gm_assoc a.2 b.2 c.2)
  mul_comm a b := B.same (gm_comm a.2 b.2)
  mul_one a := B.same (gm_one a.1 a.2)
  mul_add a b c := B.same (gm_right _ _ _)
  mul_inv a h := B.same (gm_inv a.1 a.2 fun e => h (B.same e))
  one_ne h := absurd (congrArg B.v h) (by decide)
end QGf
end
section
set_option linter.unusedVariables false
namespace QMat
open QLin QGf
abbrev Grid := List (List Int)
def el (m : Grid) (i j : Nat) : Int := (m.getD i []).getD j 0
def mulI (a b : Int) : Int := ((gm a.toNat b.toNat : Nat) : Int)
def xorI (a b : Int) : Int := ((a.toNat ^^^ b.toNat : Nat) : Int)
def invI (a : Int) : Int := ((ginv a.toNat : Nat) : Int)
def fb (x : Int) : B := toB x.toNat
def bI (b : B) : Int := ((b.1 : Nat) : Int)
def Byte (x : Int) : Prop := 0 ≤ x ∧ x < 256
theorem fb_bI (b : B) : fb (bI b) = b := by unfold fb bI; rw [Int.toNat_natCast, toB_self]
theorem bI_fb {x : Int} (h : Byte x) : bI (fb x) = x := by
  unfold fb bI; rw [toB_val (by have := h.2; have := h.1; omega)]; have := h.1; omega
theorem fb_inj {x y : Int} (hx : Byte x) (hy : Byte y) (h : fb x = fb y) : x = y := by rw [← bI_fb hx, ← bI_fb hy, h]
theorem byte_bI (b : B) : Byte (bI b) := ⟨by unfold bI; omega, by have := b.2; unfold bI; omega⟩
theorem byte_zero : Byte 0 := ⟨by omega, by omega⟩
theorem fb_zero : fb 0 = Fl.zero := rfl
theorem fb_ne {x : Int} (hx : Byte x) : x ≠ 0 ↔ fb x ≠ Fl.zero := by
  rw [← fb_zero]; exact ⟨fun h e => h (fb_inj hx byte_zero e), fun h e => h (by rw [e])⟩
theorem mulI_bI (a b : Int) (ha : Byte a) (hb : Byte b) : mulI a b = bI (fb a * fb b) := by
  have h1 : (fb a).1 = a.toNat := toB_val (by have := ha.2; omega)
  have h2 : (fb b).1 = b.toNat := toB_val (by have := hb.2; omega)
  show ((gm a.toNat b.toNat : Nat) : Int) = ((gm (fb a).1 (fb b).1 : Nat) : Int)
  rw [h1, h2]
theorem xorI_bI (a b : Int) (ha : Byte a) (hb : Byte b) : xorI a b = bI (fb a + fb b) := by
  have h1 : (fb a).1 = a.toNat := toB_val (by have := ha.2; omega)
  have h2 : (fb b).1 = b.toNat := toB_val (by have := hb.2; omega)
  show ((a.toNat ^^^ b.toNat : Nat) : Int) = (((fb a).1 ^^^ (fb b).1 : Nat) : Int)
  rw [h1, h2]
theorem invI_bI (a : Int) (ha : Byte a) : invI a = bI (Fl.inv (fb a)) := by
  have h1 : (fb a).1 = a.toNat := toB_val (by have := ha.2; omega)
  show ((ginv a.toNat : Nat) : Int) = ((ginv (fb a).1 : Nat) : Int)
  rw [h1]
theorem byte_mulI {a b : Int} (ha : Byte a) (hb : Byte b) : Byte (mulI a b) := by rw [mulI_bI a b ha hb]; exact byte_bI _
theorem byte_xorI {a b : Int} (ha : Byte a) (hb : Byte b) : Byte (xorI a b) := by rw [xorI_bI a b ha hb]; exact byte_bI _
theorem byte_invI {a : Int} (ha : Byte a) : Byte (invI a) := by rw [invI_bI a ha]; exact byte_bI _
theorem fb_mulI {a b : Int} (ha : Byte a) (hb : Byte b) : fb (mulI a b) = fb a * fb b := by rw [mulI_bI a b ha hb, fb_bI]
theorem fb_xorI {a b : Int} (ha : Byte a) (hb : Byte b) : fb (xorI a b) = fb a + fb b := by rw [xorI_bI a b ha hb, fb_bI]
theorem fb_invI {a : Int} (ha : Byte a) : fb (invI a) = Fl.inv (fb a) := by rw [invI_bI a ha, fb_bI]
structure Shape (m : Grid) (h w : Nat) : Prop where
  rows : m.length = h
  cols : ∀ i, i < h → (m.getD i []).length = w
def Bytes (m : Grid) : Prop := ∀ i j, Byte (el m i j)
def build (h w : Nat) (f : Nat → Nat → Int) : Grid := (List.range h).map fun i => (List.range w).map fun j => f i j
theorem build_row (h w : Nat) (f : Nat → Nat → Int) (i : Nat) (hi : i < h) : (build h w f).getD i [] = (List.range w).map fun j => f i j := by
  simp [build, List.getD_eq_getElem?_getD, List.getElem?_map, List.getElem?_range hi]
theorem shape_build (h w : Nat) (f : Nat → Nat → Int) : Shape (build h w f) h w := ⟨by simp [build], fun i hi => by rw [build_row h w f i hi]; simp⟩
theorem el_build (h w : Nat) (f : Nat → Nat → Int) (i j : Nat) (hi : i < h) (hj : j < w) : el (build h w f) i j = f i j := by
  unfold el; rw [build_row h w f i hi]; simp [List.getD_eq_getElem?_getD, List.getElem?_map, List.getElem?_range hj]
theorem el_out {m : Grid} {h w : Nat} (hm : Shape m h w) (i j : Nat) (ho : h ≤ i ∨ w ≤ j) : el m i j = 0 := by
  unfold el
  rcases Nat.lt_or_ge i h with hi | hi
  · rcases ho with ho | ho
    · omega
    · rw [List.getD_eq_getElem?_getD, List.getElem?_eq_none (by rw [hm.cols i hi]; exact ho)]; rfl
  · rw [List.getD_eq_getElem?_getD (l := m), List.getElem?_eq_none (by rw [hm.rows]; exact hi)]; rfl
theorem el_build_any (h w : Nat) (f : Nat → Nat → Int) (i j : Nat) : el (build h w f) i j = if i < h ∧ j < w then f i j else 0 := by
  split
  · rename_i hh; exact el_build h w f i j hh.1 hh.2
  · exact el_out (shape_build h w f) i j (by omega)
theorem bytes_build {h w : Nat} {f : Nat → Nat → Int} (hf : ∀ i j, i < h → j < w → Byte (f i j)) : Bytes (build h w f) := by
  intro i j
  rw [el_build_any]; split
  · rename_i hh; exact hf i j hh.1 hh.2
  · exact byte_zero
theorem row_ext {a b : List Int} (hl : a.length = b.length) (h : ∀ j, j < a.length → a.getD j 0 = b.getD j 0) : a = b := by
  apply List.ext_getElem hl
  intro j h1 h2
  have := h j h1
  simpa [List.getD_eq_getElem?_getD, List.getElem?_eq_getElem h1, List.getElem?_eq_getElem h2] using this
theorem grid_ext {a b : Grid} {h w : Nat} (ha : Shape a h w) (hb : Shape b h w) (he : ∀ i j, i < h → j < w → el a i j = el b i j) : a = b := by
  apply List.ext_getElem (by rw [ha.rows, hb.rows])
  intro i h1 h2
  have hi : i < h := by rw [← ha.rows]; exact h1
  have e1 : a[i] = a.getD i [] := by simp [List.getD_eq_getElem?_getD, List.getElem?_eq_getElem h1]
  have e2 : b[i] = b.getD i [] := by simp [List.getD_eq_getElem?_getD, List.getElem?_eq_getElem h2]
  rw [e1, e2]
  refine row_ext (by rw [ha.cols i hi, hb.cols i hi]) fun j hj => he i j hi (by rw [ha.cols i hi] at hj; exact hj)
theorem build_el {m : Grid} {h w : Nat} (hm : Shape m h w) : build h w (el m) = m := grid_ext (shape_build h w _) hm fun i j hi hj => el_build h w _ i j hi hj
def fn (m : Grid) : Mat B := fun i j => fb (el m i j)
theorem fn_wide {m : Grid} {h w : Nat} (hm : Shape m h w) (i j : Nat) (ho : h ≤ i ∨ w ≤ j) : fn m i j = Fl.zero := by unfold fn; rw [el_out hm i j ho]; rfl
def cols (m : Grid) : Nat := (m.getD 0 []).length
theorem shape_cols {m : Grid} {h w : Nat} (hm : Shape m h w) (hp : 0 < h) : cols m = w := hm.cols 0 hp
theorem shape_self {m : Grid} (hv : ∀ i, i < m.length → (m.getD i []).length = cols m) : Shape m m.length (cols m) := ⟨rfl, hv⟩
def findFrom (m : Grid) (c : Nat) (r : Nat) : Nat → Option Nat
  | 0 => none
  | d + 1 => if el m r c ≠ 0 then some r else findFrom m c (r + 1) d
def find (m : Grid) (r c : Nat) : Option Nat := findFrom m c r (m.length - r)
theorem findFrom_some {m : Grid} {c : Nat} : ∀ {d r k : Nat}, findFrom m c r d = some k → r ≤ k ∧ k < r + d ∧ el m k c ≠ 0 ∧ ∀ i, r ≤ i → i < k → el m i c = 0
  | 0, _, _, h => by cases h
  | d + 1, r, k, h => by
    unfold findFrom at h
    split at h
    · rename_i hne; injection h with h; subst h; exact ⟨by omega, by omega, hne, fun i h1 h2 => by omega⟩
    · rename_i hz
      obtain ⟨h1, h2, h3, h4⟩ := findFrom_some h
      exact ⟨by omega, by omega, h3, fun i h5 h6 => by
        by_cases e : i = r
        · rw [e]; exact Classical.not_not.1 hz
        · exact h4 i (by omega) h6⟩
theorem findFrom_none {m : Grid} {c : Nat} : ∀ {d r : Nat}, findFrom m c r d = none → ∀ i, r ≤ i → i < r + d → el m i c = 0
  | 0, r, _, i, h1, h2 => by omega
  | d + 1, r, h, i, h1, h2 => by
    unfold findFrom at h
    split at h
    · cases h
    · rename_i hz
      by_cases e : i = r
      · rw [e]; exact Classical.not_not.1 hz
      · exact findFrom_none h i (by omega) (by omega)
theorem find_some {m : Grid} {r c k : Nat} (hr : r ≤ m.length) (h : find m r c = some k) : r ≤ k ∧ k < m.length ∧ el m k c ≠ 0 ∧ ∀ i, r ≤ i → i < k → el m i c = 0 := by
  obtain ⟨h1, h2, h3, h4⟩ := findFrom_some h; exact ⟨h1, by omega, h3, h4⟩
theorem find_none {m : Grid} {r c : Nat} (h : find m r c = none) : ∀ i, r ≤ i → i < m.length → el m i c = 0 := fun i h1 h2 => findFrom_none h i h1 (by omega)
def clearG (m : Grid) (r k c : Nat) : Grid := build m.length (cols m) fun i j =>
  if i = r then mulI (invI (el m k c)) (el m k j)
  else xorI (if i = k then el m r j else el m i j) (mulI (if i = k then el m r c else el m i c) (mulI (invI (el m k c)) (el m k j)))
structure St where
  g : Grid
  p : List Nat
def stepG (s : St) (c : Nat) : St := match find s.g s.p.length c with
  | none => s
  | some k => ⟨clearG s.g s.p.length k c, s.p ++ [c]⟩
def elim (m : Grid) : Nat → St
  | 0 => ⟨m, []⟩
  | c + 1 => stepG (elim m c) c
def reduce (m : Grid) : Grid × List Nat := let s := elim m (cols m); (s.g.take s.p.length, s.p)
theorem fn_clearG {m : Grid} {h w : Nat} (hm : Shape m h w) (hb : Bytes m) {r k c : Nat} (hr : r < h) (hk : k < h) (hc : c < w) : fn (clearG m r k c) = clear (fn m) r k c := by
  funext i j
  have hcols : cols m = w := shape_cols hm (by omega)
  show fb (el (clearG m r k c) i j) = _
  unfold clearG
  rw [el_build_any, hm.rows, hcols]
  have bk := hb k j
  have bc := hb k c
  have bi := byte_invI bc
  by_cases hij : i < h ∧ j < w
  · rw [if_pos hij]
    unfold clear
    by_cases e : i = r
    · rw [if_pos e, if_pos e, fb_mulI bi bk, fb_invI bc]; rfl
    · rw [if_neg e, if_neg e]
      by_cases e' : i = k
      · simp only [if_pos e']
        rw [fb_xorI (hb r j) (byte_mulI (hb r c) (byte_mulI bi bk)), fb_mulI (hb r c) (byte_mulI bi bk), fb_mulI bi bk, fb_invI bc]; rfl
      · simp only [if_neg e']
        rw [fb_xorI (hb i j) (byte_mulI (hb i c) (byte_mulI bi bk)), fb_mulI (hb i c) (byte_mulI bi bk), fb_mulI bi bk, fb_invI bc]; rfl
  · rw [if_neg hij]
    unfold clear
    have hz : ∀ i', (h ≤ i' ∨ w ≤ j) → fn m i' j = Fl.zero := fun i' ho => fn_wide hm i' j ho
    by_cases e : i = r
    · rw [if_pos e, hz k (by omega), mul_zero]; rfl
    · rw [if_neg e]
      by_cases e' : i = k
      · rw [if_pos e', if_pos e', hz r (by omega), hz k (by omega), mul_zero, mul_zero, Fl.add_zero]; rfl
      · rw [if_neg e', if_neg e', hz i (by omega)]
        by_cases hj : j < w
        · rw [fn_wide hm i c (by omega), zero_mul, Fl.add_zero]; rfl
        · rw [hz k (by omega), mul_zero, mul_zero, Fl.add_zero]; rfl
theorem shape_clearG {m : Grid} {h w : Nat} (hm : Shape m h w) (hp : 0 < h) (r k c : Nat) : Shape (clearG m r k c) h w := by
  unfold clearG; rw [hm.rows, shape_cols hm hp]; exact shape_build _ _ _
theorem bytes_clearG {m : Grid} (hb : Bytes m) (r k c : Nat) : Bytes (clearG m r k c) := by
  refine bytes_build fun i j _ _ => ?_
  have bm := byte_mulI (byte_invI (hb k c)) (hb k j)
  split
  · exact bm
  · refine byte_xorI ?_ (byte_mulI ?_ bm)
    · split
      · exact hb _ _
      · exact hb _ _
    · split
      · exact hb _ _
      · exact hb _ _
def piv (p : List Nat) (j : Nat) : Nat := p.getD j 0
structure Good (m : Grid) (h w c : Nat) (s : St) : Prop where
  shape : Shape s.g h w
  bytes : Bytes s.g
  part : Part w h c s.p.length (piv s.p) (fn m) (fn s.g)
theorem good_elim {m : Grid} {h w : Nat} (hm : Shape m h w) (hb : Bytes m) : ∀ c, c ≤ w → Good m h w c (elim m c)
  | 0, _ => ⟨hm, hb, Part.start _ _ fun j d _ hd => fn_wide hm j d (.inr hd)⟩
  | c + 1, hc => by
    have ih := good_elim hm hb c (by omega)
    show Good m h w (c + 1) (stepG (elim m c) c)
    unfold stepG
    split
    · rename_i hf
      exact ⟨ih.shape, ih.bytes, ih.part.skip fun k h1 h2 => by
        show fb _ = _
        rw [find_none hf k h1 (by rw [ih.shape.rows]; exact h2)]; rfl⟩
    · rename_i k hf
      obtain ⟨h1, h2, h3, _⟩ := find_some (by rw [ih.shape.rows]; exact ih.part.le) hf
      rw [ih.shape.rows] at h2
      refine ⟨shape_clearG ih.shape (by omega) _ _ _, bytes_clearG ih.bytes _ _ _, ?_⟩
      rw [fn_clearG ih.shape ih.bytes (by omega) h2 (by omega)]
      have hl : ((elim m c).p ++ [c]).length = (elim m c).p.length + 1 := by simp
      show Part w h (c + 1) ((elim m c).p ++ [c]).length _ _ _
      rw [hl]
      refine ih.part.step h1 h2 ((fb_ne (ih.bytes k c)).1 h3) _ (fun j hj => ?_) ?_
      · simp [piv, List.getD_eq_getElem?_getD, List.getElem?_append_left hj]
      · simp [piv, List.getD_eq_getElem?_getD]
theorem reduce_rref {m : Grid} {h w : Nat} (hm : Shape m h w) (hb : Bytes m) (hw : cols m = w) :
    (reduce m).2.length ≤ h ∧ Shape (reduce m).1 (reduce m).2.length w ∧ Bytes (reduce m).1 ∧ Rref w (reduce m).2.length (piv (reduce m).2) (fn (reduce m).1) ∧
      ∀ v, InSpan h (fn m) v ↔ InSpan (reduce m).2.length (fn (reduce m).1) v := by
  have hg := good_elim hm hb w (Nat.le_refl _)
  unfold reduce; rw [hw]
  dsimp only
  generalize hs : elim m w = s at *
  have hle := hg.part.le
  have hrow : ∀ i, i < s.p.length → (s.g.take s.p.length).getD i [] = s.g.getD i [] := fun i hi => by
    simp [List.getD_eq_getElem?_getD, hi]
  have hel : ∀ i j, i < s.p.length → el (s.g.take s.p.length) i j = el s.g i j := fun i j hi => by unfold el; rw [hrow i hi]
  have hsh : Shape (s.g.take s.p.length) s.p.length w := ⟨by rw [List.length_take, hg.shape.rows]; omega, fun i hi => by rw [hrow i hi]; exact hg.shape.cols i (by omega)⟩
  obtain ⟨hR, hspan⟩ := hg.part.rref
  have hfn : ∀ j, j < s.p.length → fn (s.g.take s.p.length) j = fn s.g j := fun j hj => funext fun c => by show fb _ = fb _; rw [hel j c hj]
  refine ⟨hle, hsh, fun i j => ?_, ⟨hR.lt, hR.mono, fun i j hi hj => by rw [hfn j hj]; exact hR.piv i j hi hj, fun j c hj hc => by rw [hfn j hj]; exact hR.low j c hj hc, fun j c hj hc => by rw [hfn j hj]; exact hR.wide j c hj hc⟩, fun v => ?_⟩
  · by_cases hi : i < s.p.length
    · rw [hel i j hi]; exact hg.bytes i j
    · rw [el_out hsh i j (by omega)]; exact byte_zero
  · rw [hspan v]
    exact ⟨InSpan.congr fun k hk c => by rw [hfn k hk], InSpan.congr fun k hk c => by rw [hfn k hk]⟩
theorem reduce_rank {m : Grid} {h w : Nat} (hm : Shape m h w) (hb : Bytes m) (hw : cols m = w) : HasRank w h (fn m) (reduce m).2.length :=
  let ⟨_, _, _, hR, hs⟩ := reduce_rref hm hb hw; ⟨_, _, hR, hs⟩
end QMat
end
section
set_option linter.unusedVariables false
namespace Go.Proofs.YtijebgceopddmaaDoor.Gf
open Go.RowKit Go.Proofs.YtijebgceopddmaaDoorW.PrintWords Go.Proofs.YtijebgceopddmaaDoorW.PrintLast Go.Proofs.YtijebgceopddmaaDoorW.PrintMore
open QGf QMat
theorem ofInt_nat (n : Nat) (k : Nat) : BitVec.ofInt k (n : Int) = BitVec.ofNat k n := by
  apply BitVec.eq_of_toNat_eq; simp
theorem wrap_u64 {n : Nat} (h : n < 18446744073709551616) : IntKind.u64.wrap (n : Int) = n := by unfold IntKind.wrap; simp [IntKind.bits, IntKind.signed]; omega
theorem wrap_u8 {n : Nat} (h : n < 256) : IntKind.u8.wrap (n : Int) = n := by unfold IntKind.wrap; simp [IntKind.bits, IntKind.signed]; omega
theorem xor_u64 {a b : Nat} (ha : a < 18446744073709551616) (hb : b < 18446744073709551616) : Go.bits .xor .u64 (a : Int) (b : Int) = ((a ^^^ b : Nat) : Int) := by
  show IntKind.u64.wrap (((BitVec.ofInt 64 (a : Int) ^^^ BitVec.ofInt 64 (b : Int)).toNat : Nat) : Int) = _
  rw [ofInt_nat, ofInt_nat, BitVec.toNat_xor, BitVec.toNat_ofNat, BitVec.toNat_ofNat, Nat.mod_eq_of_lt ha, Nat.mod_eq_of_lt hb]
  exact wrap_u64 (Nat.xor_lt_two_pow (n := 64) ha hb)
theorem and_u64 {a b : Nat} (ha : a < 18446744073709551616) (hb : b < 18446744073709551616) : Go.bits .and .u64 (a : Int) (b : Int) = ((a &&& b : Nat) : Int) := by
  show IntKind.u64.wrap (((BitVec.ofInt 64 (a : Int) &&& BitVec.ofInt 64 (b : Int)).toNat : Nat) : Int) = _
  rw [ofInt_nat, ofInt_nat, BitVec.toNat_and, BitVec.toNat_ofNat, BitVec.toNat_ofNat, Nat.mod_eq_of_lt ha, Nat.mod_eq_of_lt hb]
  exact wrap_u64 (Nat.lt_of_le_of_lt Nat.and_le_left ha)
theorem xor_u8 {a b : Nat} (ha : a < 256) (hb : b < 256) : Go.bits .xor .u8 (a : Int) (b : Int) = ((a ^^^ b : Nat) : Int) := by
  show IntKind.u8.wrap (((BitVec.ofInt 8 (a : Int) ^^^ BitVec.ofInt 8 (b : Int)).toNat : Nat) : Int) = _
  rw [ofInt_nat, ofInt_nat, BitVec.toNat_xor, BitVec.toNat_ofNat, BitVec.toNat_ofNat, Nat.mod_eq_of_lt ha, Nat.mod_eq_of_lt hb]
  exact wrap_u8 (xor_lt ha hb)
theorem and_u8 {a b : Nat} (ha : a < 256) (hb : b < 256) : Go.bits .and .u8 (a : Int) (b : Int) = ((a &&& b : Nat) : Int) := by
  show IntKind.u8.wrap (((BitVec.ofInt 8 (a : Int) &&& BitVec.ofInt 8 (b : Int)).toNat : Nat) : Int) = _
  rw [ofInt_nat, ofInt_nat, BitVec.toNat_and, BitVec.toNat_ofNat, BitVec.toNat_ofNat, Nat.mod_eq_of_lt ha, Nat.mod_eq_of_lt hb]
  exact wrap_u8 (Nat.lt_of_le_of_lt Nat.and_le_left ha)
theorem bits_xorI {a b : Int} (ha : Byte a) (hb : Byte b) : Go.bits .xor .u8 a b = xorI a b := by
  obtain ⟨n, rfl⟩ := Int.eq_ofNat_of_zero_le ha.1
  obtain ⟨m, rfl⟩ := Int.eq_ofNat_of_zero_le hb.1
  have := ha.2
  have := hb.2
  rw [xor_u8 (by omega) (by omega)]; rfl
def highN : List Nat := [0, 29, 58, 39, 116, 105, 78, 83, 232, 245, 210, 207, 156, 129, 166, 187]
def redN (x : Nat) : Nat := (x % 256) ^^^ highN.getD ((x / 256) &&& 15) 0
def stepN (a n x j : Nat) : Nat := if (n / 2 ^ j) &&& 1 = 1 then x ^^^ (a * 2 ^ j) else x
def sumN (a n : Nat) : Nat := stepN a n (stepN a n (stepN a n (stepN a n 0 0) 1) 2) 3
theorem highL_N : ∀ j, j < 16 → highL.getD j 0 = ((highN.getD j 0 : Nat) : Int) := by decide +kernel
theorem highN_lt : ∀ j, j < 16 → highN.getD j 0 < 256 := by decide +kernel
theorem and15_lt (n : Nat) : n &&& 15 < 16 := Nat.lt_of_le_of_lt Nat.and_le_right (by omega)
theorem redN_lt (x : Nat) : redN x < 256 := xor_lt (by omega) (highN_lt _ (and15_lt _))
theorem reduce_N {x : Nat} (hx : x < 18446744073709551616) : gf_reduce.f (x : Int) = some ((redN x : Nat) : Int) := by
  unfold gf_reduce.f
  rw [if_pos (by omega)]
  have h1 : ((x : Int) / 256) = ((x / 256 : Nat) : Int) := by omega
  have h2 : ((x : Int) % 256) = ((x % 256 : Nat) : Int) := by omega
  rw [h1, h2, show (15 : Int) = ((15 : Nat) : Int) from rfl, and_u64 (by omega) (by omega), Int.toNat_natCast, highL_N _ (and15_lt _), xor_u8 (by omega) (highN_lt _ (and15_lt _))]
  rfl
theorem shl_N {a j : Nat} (ha : a < 256) (hj : j < 4) : shl .u64 (IntKind.u64.wrap (a : Int)) (j : Int) = ((a * 2 ^ j : Nat) : Int) := by
  unfold shl
  rw [wrap_u64 (by omega), Int.toNat_natCast, show min j IntKind.u64.bits = j from Nat.min_eq_left (by simp [IntKind.bits]; omega)]
  have : ((a : Int) * 2 ^ j) = ((a * 2 ^ j : Nat) : Int) := by simp
  rw [this]
  refine wrap_u64 ?_
  have : 2 ^ j < 2 ^ 4 := Nat.pow_lt_pow_right (by omega) hj
  have h2 : a * 2 ^ j < 256 * 2 ^ 4 := Nat.mul_lt_mul'' ha this
  omega
theorem shr_N {n j : Nat} (hj : j < 4) : shr .u64 (n : Int) (j : Int) = ((n / 2 ^ j : Nat) : Int) := by
  unfold shr
  rw [Int.toNat_natCast, show min j IntKind.u64.bits = j from Nat.min_eq_left (by simp [IntKind.bits]; omega)]
  simp
theorem wrap_succ (j : Nat) (h : j < 1000) : wrap64 ((j : Int) + 1) = ((j + 1 : Nat) : Int) := by unfold wrap64; omega
theorem xor_small {x y : Nat} (hx : x < 4096) (hy : y < 4096) : x ^^^ y < 4096 := Nat.xor_lt_two_pow (n := 12) hx hy
theorem mul_small {a j : Nat} (ha : a < 256) (hj : j < 4) : a * 2 ^ j < 4096 := by
  have : 2 ^ j < 2 ^ 4 := Nat.pow_lt_pow_right (by omega) hj
  exact Nat.mul_lt_mul'' ha this
theorem stepN_lt {a n x j : Nat} (ha : a < 256) (hx : x < 4096) (hj : j < 4) : stepN a n x j < 4096 := by
  unfold stepN; split
  · exact xor_small hx (mul_small ha hj)
  · exact hx
theorem times_step {a n x j k : Nat} (ha : a < 256) (hn : n < 16) (hx : x < 4096) (hj : j < 4) : gf_times.l0 (k + 1) (a : Int) (n : Int) (x : Int) (j : Int) = gf_times.l0 k (a : Int) (n : Int) ((stepN a n x j : Nat) : Int) ((j + 1 : Nat) : Int) := by
  simp only [gf_times.l0]
  rw [if_pos (by omega), if_pos (by omega), shr_N hj, show (1 : Int) = ((1 : Nat) : Int) from rfl, and_u64 (by have := Nat.div_le_self n (2 ^ j); omega) (by omega)]
  have hw : wrap64 ((j : Int) + ((1 : Nat) : Int)) = ((j + 1 : Nat) : Int) := wrap_succ j (by omega)
  rw [hw]
  unfold stepN
  by_cases h : n / 2 ^ j &&& 1 = 1
  · rw [if_pos (by exact_mod_cast h), if_pos h, shl_N ha hj, xor_u64 (by omega) (by have := mul_small ha hj; omega)]
  · rw [if_neg (by exact_mod_cast h), if_neg h]
theorem times_N {a n k : Nat} (ha : a < 256) (hn : n < 16) : gf_times.f (k + 5) (a : Int) (n : Int) = some ((redN (sumN a n) : Nat) : Int) := by
  unfold gf_times.f
  have h0 : (0 : Nat) < 4096 := by omega
  have h1 := stepN_lt (n := n) ha h0 (show 0 < 4 by omega)
  have h2 := stepN_lt (n := n) ha h1 (show 1 < 4 by omega)
  have h3 := stepN_lt (n := n) ha h2 (show 2 < 4 by omega)
  have h4 := stepN_lt (n := n) ha h3 (show 3 < 4 by omega)
  have e0 := times_step (k := k + 4) ha hn h0 (show 0 < 4 by omega)
  have e1 := times_step (k := k + 3) ha hn h1 (show 1 < 4 by omega)
  have e2 := times_step (k := k + 2) ha hn h2 (show 2 < 4 by omega)
  have e3 := times_step (k := k + 1) ha hn h3 (show 3 < 4 by omega)
  rw [show (0 : Int) = ((0 : Nat) : Int) from rfl, e0, e1, e2, e3]
  simp only [gf_times.l0]
  rw [if_neg (by omega), reduce_N (by omega)]
  rfl
theorem times_gm : ∀ a, a < 256 → ∀ n, n < 16 → redN (sumN a n) = gm a n := by decide +kernel
theorem red_gm : ∀ y, y < 256 → redN (y * 16) = gm y 16 := by decide +kernel
theorem split_gm : ∀ b, b < 256 → gm (b / 16) 16 ^^^ (b &&& 15) = b := by decide +kernel
theorem Mul_N {a b k : Nat} (ha : a < 256) (hb : b < 256) : gf_Mul.f (k + 5) (a : Int) (b : Int) = some ((gm a b : Nat) : Int) := by
  unfold gf_Mul.f
  have h1 : IntKind.u64.wrap ((b : Int) / 16) = ((b / 16 : Nat) : Int) := by rw [show (b : Int) / 16 = ((b / 16 : Nat) : Int) by omega]; exact wrap_u64 (by omega)
  have h2 : IntKind.u64.wrap (Go.bits .and .u8 (b : Int) 15) = ((b &&& 15 : Nat) : Int) := by
    rw [show (15 : Int) = ((15 : Nat) : Int) from rfl, and_u8 hb (by omega)]; exact wrap_u64 (by have := and15_lt b; omega)
  rw [h1, times_N ha (by omega)]
  simp only [Option.bind_some]
  rw [times_gm a ha _ (by omega)]
  have hg := gm_lt ha (b / 16)
  have h3 : IntKind.u64.wrap (IntKind.u64.wrap ((gm a (b / 16) : Nat) : Int) * 16) = ((gm a (b / 16) * 16 : Nat) : Int) := by
    rw [wrap_u64 (by omega), show ((gm a (b / 16) : Nat) : Int) * 16 = ((gm a (b / 16) * 16 : Nat) : Int) by omega]; exact wrap_u64 (by omega)
  rw [h3, reduce_N (by omega)]
  simp only [Option.bind_some]
  rw [h2, times_N ha (and15_lt b)]
  simp only [Option.bind_some]
  rw [times_gm a ha _ (and15_lt b), xor_u8 (redN_lt _) (gm_lt ha _), red_gm _ hg, gm_assoc ha (by omega) (by omega), ← gm_right, split_gm b hb]
theorem Mul_f {a b : Int} (ha : Byte a) (hb : Byte b) (k : Nat) (hk : 5 ≤ k) : gf_Mul.f k a b = some (mulI a b) := by
  obtain ⟨n, rfl⟩ := Int.eq_ofNat_of_zero_le ha.1
  obtain ⟨m, rfl⟩ := Int.eq_ofNat_of_zero_le hb.1
  have := ha.2
  have := hb.2
  obtain ⟨d, rfl⟩ : ∃ d, k = d + 5 := ⟨k - 5, by omega⟩
  rw [Mul_N (by omega) (by omega)]; rfl
theorem seven {a b c d e f g : Nat} (ha : a < 256) (hb : b < 256) (hc : c < 256) (hd : d < 256) (he : e < 256) (hf : f < 256) (hg : g < 256) :
    gm (gm (gm (gm (gm (gm (gm 1 a) b) c) d) e) f) g = gm a (gm b (gm c (gm d (gm e (gm f g))))) := by
  rw [show gm 1 a = a from by rw [gm_comm (by omega) ha]; exact gm_one _ ha]
  have l := fun {x : Nat} (h : x < 256) (y : Nat) => gm_lt h y
  rw [gm_assoc (l (l (l (l ha _) _) _) _) hf hg, gm_assoc (l (l (l ha _) _) _) he (l hf _), gm_assoc (l (l ha _) _) hd (l he _), gm_assoc (l ha _) hc (l hd _), gm_assoc ha hb (l hc _)]
def sqI (a : Int) : Int := mulI a a
theorem power_odd {a x n : Int} {k : Nat} (ha : Byte a) (hx : Byte x) (hn : 0 < n) (h : Go.bits .and .i64 n 1 = 1) (hk : 5 ≤ k) : gf_power.l0 (k + 1) a n x = gf_power.l0 k (sqI a) (n / 2) (mulI x a) := by
  simp only [gf_power.l0]
  rw [if_pos hn, if_pos h, Mul_f hx ha k hk, Mul_f ha ha k hk]; rfl
theorem power_even {a x n : Int} {k : Nat} (ha : Byte a) (hn : 0 < n) (h : Go.bits .and .i64 n 1 ≠ 1) (hk : 5 ≤ k) : gf_power.l0 (k + 1) a n x = gf_power.l0 k (sqI a) (n / 2) x := by
  simp only [gf_power.l0]
  rw [if_pos hn, if_neg h, Mul_f ha ha k hk]; rfl
theorem power_end (a x : Int) (k : Nat) : gf_power.l0 (k + 1) a 0 x = some x := by
  simp only [gf_power.l0]
  rw [if_neg (by omega)]
theorem Inv_f {a : Int} (ha : Byte a) (k : Nat) (hk : 20 ≤ k) : gf_Inv.f k a = some (if a = 0 then (0, 1) else (invI a, 0)) := by
  unfold gf_Inv.f
  by_cases h0 : a = 0
  · rw [if_pos h0, if_pos h0]
  · rw [if_neg h0, if_neg h0]
    obtain ⟨d, rfl⟩ : ∃ d, k = d + 20 := ⟨k - 20, by omega⟩
    unfold gf_power.f
    have b1 : Byte (sqI a) := byte_mulI ha ha
    have b2 : Byte (sqI (sqI a)) := byte_mulI b1 b1
    have b3 : Byte (sqI (sqI (sqI a))) := byte_mulI b2 b2
    have b4 : Byte (sqI (sqI (sqI (sqI a)))) := byte_mulI b3 b3
    have b5 : Byte (sqI (sqI (sqI (sqI (sqI a))))) := byte_mulI b4 b4
    have b6 : Byte (sqI (sqI (sqI (sqI (sqI (sqI a)))))) := byte_mulI b5 b5
    have b7 : Byte (sqI (sqI (sqI (sqI (sqI (sqI (sqI a))))))) := byte_mulI b6 b6
    have bo : Byte 1 := ⟨by omega, by omega⟩
    have x1 := byte_mulI bo b1
    have x2 := byte_mulI x1 b2
    have x3 := byte_mulI x2 b3
    have x4 := byte_mulI x3 b4
    have x5 := byte_mulI x4 b5
    have x6 := byte_mulI x5 b6
    rw [power_even ha (by omega) (by decide) (by omega), show (254 : Int) / 2 = 127 from rfl,
      power_odd b1 bo (by omega) (by decide) (by omega), show (127 : Int) / 2 = 63 from rfl,
      power_odd b2 x1 (by omega) (by decide) (by omega), show (63 : Int) / 2 = 31 from rfl,
      power_odd b3 x2 (by omega) (by decide) (by omega), show (31 : Int) / 2 = 15 from rfl,
      power_odd b4 x3 (by omega) (by decide) (by omega), show (15 : Int) / 2 = 7 from rfl,
      power_odd b5 x4 (by omega) (by decide) (by omega), show (7 : Int) / 2 = 3 from rfl,
      power_odd b6 x5 (by omega) (by decide) (by omega), show (3 : Int) / 2 = 1 from rfl,
      power_odd b7 x6 (by omega) (by decide) (by omega), show (1 : Int) / 2 = 0 from rfl]
    rw [power_end]
    simp only [Option.bind_some]
    congr 2
    obtain ⟨n, rfl⟩ := Int.eq_ofNat_of_zero_le ha.1
    have hn : n < 256 := by have := ha.2; omega
    have q1 : ∀ {y : Nat}, y < 256 → sq y < 256 := fun hy => gm_lt hy _
    have g1 := q1 hn
    have g2 := q1 g1
    have g3 := q1 g2
    have g4 := q1 g3
    have g5 := q1 g4
    have g6 := q1 g5
    have g7 := q1 g6
    show ((gm (gm (gm (gm (gm (gm (gm 1 (sq n)) (sq (sq n))) (sq (sq (sq n)))) (sq (sq (sq (sq n))))) (sq (sq (sq (sq (sq n)))))) (sq (sq (sq (sq (sq (sq n))))))) (sq (sq (sq (sq (sq (sq (sq n)))))) ) : Nat) : Int) = ((ginv n : Nat) : Int)
    congr 1
    exact seven g1 g2 g3 g4 g5 g6 g7
end Go.Proofs.YtijebgceopddmaaDoor.Gf
end
section
set_option linter.unusedVariables false
namespace QLin
variable {F : Type} [Fl F]
open Fl
def dot (n : Nat) (v z : Vec F) : F := sum n fun j => v j * z j
theorem dot_comb (n m : Nat) (a : Vec F) (M : Mat F) (z : Vec F) : dot n (comb m a M) z = sum m fun k => a k * dot n (M k) z := by
  show (sum n fun j => (sum m fun k => a k * M k j) * z j) = _
  have h : (sum n fun j => (sum m fun k => a k * M k j) * z j) = sum n fun j => sum m fun k => a k * (M k j * z j) :=
    sum_congr fun j _ => by rw [sum_mul]; exact sum_congr fun k _ => mul_assoc _ _ _
  rw [h, sum_comm]
  exact sum_congr fun k _ => (mul_sum _ _ _).symm
theorem dot_span {n m : Nat} {M : Mat F} {z v : Vec F} (h : ∀ i, i < m → dot n (M i) z = zero) (hv : InSpan m M v) : dot n v z = zero := by
  obtain ⟨a, rfl⟩ := hv
  rw [dot_comb]
  exact sum_zeros fun k hk => by rw [h k hk, mul_zero]
def aug (n : Nat) (A : Mat F) (b : Vec F) : Mat F := fun i j => if j < n then A i j else if j = n then b i else zero
def ext (n : Nat) (y : Vec F) : Vec F := fun j => if j < n then y j else if j = n then one else zero
def Solves (h n : Nat) (A : Mat F) (b y : Vec F) : Prop := ∀ i, i < h → dot n (A i) y = b i
theorem dot_aug (n : Nat) (A : Mat F) (b y : Vec F) (i : Nat) : dot (n + 1) (aug n A b i) (ext n y) = dot n (A i) y + b i := by
  show (sum n fun j => aug n A b i j * ext n y j) + aug n A b i n * ext n y n = _
  congr 1
  · exact sum_congr fun j hj => by simp [aug, ext, hj]
  · simp [aug, ext, mul_one]
theorem solves_iff {h n : Nat} {A : Mat F} {b y : Vec F} : Solves h n A b y ↔ ∀ i, i < h → dot (n + 1) (aug n A b i) (ext n y) = zero :=
  ⟨fun hs i hi => by rw [dot_aug, hs i hi, add_self], fun hs i hi => eq_of_add _ _ (by rw [← dot_aug]; exact hs i hi)⟩
theorem solves_rref {h n r : Nat} {A R : Mat F} {b y : Vec F} (hs : ∀ v, InSpan h (aug n A b) v ↔ InSpan r R v) : Solves h n A b y ↔ ∀ k, k < r → dot (n + 1) (R k) (ext n y) = zero :=
  solves_iff.trans ⟨fun h1 k hk => dot_span h1 ((hs _).2 (InSpan.row hk)), fun h1 i hi => dot_span h1 ((hs _).1 (InSpan.row hi))⟩
theorem no_solution {h n r : Nat} {p : Nat → Nat} {A R : Mat F} {b y : Vec F} (hR : Rref (n + 1) r p R) (hs : ∀ v, InSpan h (aug n A b) v ↔ InSpan r R v) {j : Nat} (hj : j < r) (hp : p j = n) : ¬ Solves h n A b y := by
  intro hy
  have h1 := (solves_rref hs).1 hy j hj
  have h2 : dot (n + 1) (R j) (ext n y) = R j n * ext n y n := by
    show (sum n fun i => R j i * ext n y i) + R j n * ext n y n = _
    rw [sum_zeros fun i hi => by rw [hR.low j i hj (by omega), zero_mul], zero_add]
  rw [h2, ← hp, hR.piv j j hj hj, if_pos rfl, one_mul] at h1
  simp [ext, hp] at h1
  exact one_ne h1
section
variable {h n r : Nat} {p : Nat → Nat} {A R : Mat F} {b : Vec F}
def Piv (r : Nat) (p : Nat → Nat) (c : Nat) : Prop := ∃ j, j < r ∧ p j = c
structure IsSol (n r : Nat) (p : Nat → Nat) (R : Mat F) (x : Vec F) : Prop where
  at_ : ∀ j, j < r → x (p j) = R j n
  free : ∀ c, c < n → ¬ Piv r p c → x c = zero
open Classical in
theorem dot_row (hR : Rref (n + 1) r p R) (hp : ∀ j, j < r → p j < n) {k : Nat} (hk : k < r) (z : Vec F) :
    dot n (R k) z = z (p k) + sum n fun c => if Piv r p c then zero else R k c * z c := by
  have h1 : dot n (R k) z = sum n fun c => (if c = p k then z c else zero) + (if Piv r p c then zero else R k c * z c) := by
    refine sum_congr fun c hc => ?_
    by_cases e : Piv r p c
    · rw [if_pos e, add_zero]
      obtain ⟨j, hj, rfl⟩ := e
      rw [hR.piv j k hj hk]
      by_cases e' : j = k
      · rw [if_pos e', e', if_pos rfl, one_mul]
      · rw [if_neg e', if_neg fun e2 => e' (hR.inj hj hk e2), zero_mul]
    · rw [if_neg e, if_neg fun e2 => e ⟨k, hk, e2.symm⟩, zero_add]
  rw [h1, sum_add, sum_only (p k) (hp k hk) (fun c _ hc => by rw [if_neg hc]), if_pos rfl]
theorem dot_ext (n : Nat) (v y : Vec F) : dot (n + 1) v (ext n y) = dot n v y + v n := by
  show (sum n fun j => v j * ext n y j) + v n * ext n y n = _
  congr 1
  · exact sum_congr fun j hj => by simp [ext, hj]
  · simp [ext, mul_one]
theorem sol_solves (hR : Rref (n + 1) r p R) (hs : ∀ v, InSpan h (aug n A b) v ↔ InSpan r R v) (hp : ∀ j, j < r → p j < n) {x : Vec F} (hx : IsSol n r p R x) : Solves h n A b x := by
  refine (solves_rref hs).2 fun k hk => ?_
  rw [dot_ext, dot_row hR hp hk, hx.at_ k hk, sum_zeros fun c hc => ?_, add_zero, add_self]
  split
  · rfl
  · rename_i hc'; rw [hx.free c hc hc', mul_zero]
theorem piv_new (hR : Rref (n + 1) r p R) (hs : ∀ v, InSpan h (aug n A b) v ↔ InSpan r R v) {k : Nat} (hk : k < r) (hpn : p k < n) (a : Vec F) (ha : ∀ i, i < h → A i (p k) = sum (p k) fun c => a c * A i c) : False := by
  let z : Vec F := fun j => if j < p k then a j else if j = p k then one else zero
  have key : ∀ v : Vec F, dot (n + 1) v z = (sum (p k) fun c => v c * a c) + v (p k) := by
    intro v
    show (sum (n + 1) fun j => v j * z j) = _
    rw [sum_more (show p k + 1 ≤ n + 1 by omega) (fun j h1 _ => by simp [z, show ¬ j < p k by omega, show j ≠ p k by omega, mul_zero]), sum_succ]
    congr 1
    · exact sum_congr fun c hc => by simp [z, hc]
    · simp [z, mul_one]
  have h1 : ∀ i, i < h → dot (n + 1) (aug n A b i) z = zero := by
    intro i hi
    rw [key]
    have h2 : aug n A b i (p k) = A i (p k) := by simp [aug, hpn]
    rw [h2, ha i hi]
    refine add_eq_zero (sum_congr fun c hc => ?_)
    simp [aug, show c < n by omega, mul_comm]
  have h2 := dot_span h1 ((hs _).2 (InSpan.row hk : InSpan r R (R k)))
  rw [key, sum_zeros fun c hc => by rw [hR.low k c hk hc, zero_mul], zero_add, hR.piv k k hk hk, if_pos rfl] at h2
  exact one_ne h2
end
section
variable {n : Nat} {p : Nat → Nat} {A R : Mat F}
end
def snoc (m : Nat) (M : Mat F) (v : Vec F) : Mat F := fun i => if i < m then M i else v
omit [Fl F] in
theorem snoc_lt {m : Nat} {M : Mat F} {v : Vec F} {i : Nat} (h : i < m) : snoc m M v i = M i := by simp [snoc, h]
omit [Fl F] in
theorem snoc_at {m : Nat} {M : Mat F} {v : Vec F} : snoc m M v m = v := by simp [snoc]
theorem rank_snoc {n m r s : Nat} {M : Mat F} {v : Vec F} (h : HasRank n m M r) (h' : HasRank n (m + 1) (snoc m M v) s) : s = r ↔ InSpan m M v := by
  have h1 : ∀ j, j < m → InSpan (m + 1) (snoc m M v) (M j) := fun j hj => by rw [← snoc_lt (M := M) (v := v) hj]; exact InSpan.row (by omega)
  constructor
  · intro e
    subst e
    refine h.same h' h1 v ?_
    have : InSpan (m + 1) (snoc m M v) (snoc m M v m) := InSpan.row (by omega)
    rwa [snoc_at] at this
  · intro hv
    refine h'.uniq h (fun j hj => ?_) h1
    by_cases e : j < m
    · rw [snoc_lt e]; exact InSpan.row e
    · obtain rfl : j = m := by omega
      rw [snoc_at]; exact hv
theorem rank_snoc_le {n m r s : Nat} {M : Mat F} {v : Vec F} (h : HasRank n m M r) (h' : HasRank n (m + 1) (snoc m M v) s) (hw : ∀ c, n ≤ c → v c = zero) : r ≤ s ∧ s ≤ r + 1 := by
  refine ⟨h.mono h' fun j hj => by rw [← snoc_lt (M := M) (v := v) hj]; exact InSpan.row (by omega), ?_⟩
  obtain ⟨p, R, hR, e⟩ := h
  have hw' : ∀ j d, j < r + 1 → n ≤ d → snoc r R v j d = zero := fun j d hj hd => by
    by_cases e2 : j < r
    · rw [snoc_lt e2]; exact hR.wide j d e2 hd
    · obtain rfl : j = r := by omega
      rw [snoc_at]; exact hw d hd
  obtain ⟨t, ht⟩ := exists_rank (snoc r R v) hw'
  refine Nat.le_trans (h'.mono ht fun j hj => ?_) (ht.le_rows hw')
  have h2 : ∀ k, k < r → InSpan (r + 1) (snoc r R v) (R k) := fun k hk => by rw [← snoc_lt (M := R) (v := v) hk]; exact InSpan.row (by omega)
  by_cases e2 : j < m
  · rw [snoc_lt e2]; exact InSpan.sub h2 ((e _).1 (InSpan.row e2))
  · obtain rfl : j = m := by omega
    rw [snoc_at]
    have : InSpan (r + 1) (snoc r R v) (snoc r R v r) := InSpan.row (by omega)
    rwa [snoc_at] at this
end QLin
end
section
set_option linter.unusedVariables false
namespace QMat
open QLin QGf
def sumI (n : Nat) (f : Nat → Int) : Int := match n with | 0 => 0 | n + 1 => xorI (sumI n f) (f n)
theorem byte_sumI {n : Nat} {f : Nat → Int} (h : ∀ k, k < n → Byte (f k)) : Byte (sumI n f) := by
  induction n with
  | zero => exact byte_zero
  | succ n ih => exact byte_xorI (ih fun k hk => h k (by omega)) (h n (by omega))
theorem fb_sumI {n : Nat} {f : Nat → Int} (h : ∀ k, k < n → Byte (f k)) : fb (sumI n f) = sum n fun k => fb (f k) := by
  induction n with
  | zero => rfl
  | succ n ih =>
    show fb (xorI (sumI n f) (f n)) = sum n _ + _
    rw [fb_xorI (byte_sumI fun k hk => h k (by omega)) (h n (by omega)), ih fun k hk => h k (by omega)]
def augG (m : Grid) (b : List Int) (n : Nat) : Grid := build m.length (n + 1) fun i j => if j < n then el m i j else b.getD i 0
def vec (b : List Int) : Vec B := fun i => fb (b.getD i 0)
def ByteL (b : List Int) : Prop := ∀ i, Byte (b.getD i 0)
theorem getD_out {b : List Int} {i : Nat} (h : b.length ≤ i) : b.getD i 0 = 0 := by rw [List.getD_eq_getElem?_getD, List.getElem?_eq_none h]; rfl
theorem vec_out {b : List Int} {i : Nat} (h : b.length ≤ i) : vec b i = Fl.zero := by unfold vec; rw [getD_out h]; rfl
theorem bytes_augG {m : Grid} {b : List Int} {n : Nat} (hm : Bytes m) (hb : ByteL b) : Bytes (augG m b n) := bytes_build fun i j _ _ => by
  split
  · exact hm i j
  · exact hb i
theorem shape_augG (m : Grid) (b : List Int) (n : Nat) : Shape (augG m b n) m.length (n + 1) := shape_build _ _ _
theorem fn_augG {m : Grid} {b : List Int} {n : Nat} (i : Nat) (hi : i < m.length) : fn (augG m b n) i = aug n (fn m) (vec b) i := by
  funext j
  show fb (el (augG m b n) i j) = _
  unfold augG aug
  rw [el_build_any]
  by_cases hj : j < n
  · rw [if_pos ⟨hi, by omega⟩, if_pos hj, if_pos hj]; rfl
  · by_cases e : j = n
    · rw [if_pos ⟨hi, by omega⟩, if_neg hj, if_neg hj, if_pos e]; rfl
    · rw [if_neg (by omega), if_neg hj, if_neg e]; rfl
theorem reduce_nil : reduce [] = ([], []) := rfl
structure Sys (h n : Nat) (A : Mat B) (b : Vec B) (R : Grid) (p : List Nat) : Prop where
  shape : Shape R p.length (n + 1)
  bytes : Bytes R
  rref : Rref (n + 1) p.length (piv p) (fn R)
  span : ∀ v, InSpan h (aug n A b) v ↔ InSpan p.length (fn R) v
theorem sys_of {m : Grid} {b : List Int} (n : Nat) (hm : Bytes m) (hb : ByteL b) : Sys m.length n (fn m) (vec b) (reduce (augG m b n)).1 (reduce (augG m b n)).2 := by
  rcases Nat.eq_zero_or_pos m.length with h0 | h0
  · have : augG m b n = [] := by unfold augG; rw [h0]; rfl
    rw [this, reduce_nil, h0]
    refine ⟨⟨rfl, fun i hi => absurd hi (by simp)⟩, fun i j => byte_zero, ⟨fun j hj => absurd hj (by simp), fun i j _ hj => absurd hj (by simp), fun i j hi => absurd hi (by simp), fun j c hj => absurd hj (by simp), fun j c hj => absurd hj (by simp)⟩, fun v => ?_⟩
    exact ⟨fun ⟨a, ha⟩ => ⟨a, ha⟩, fun ⟨a, ha⟩ => ⟨a, ha⟩⟩
  · have hs := shape_augG m b n
    obtain ⟨_, h2, h3, h4, h5⟩ := reduce_rref hs (bytes_augG hm hb) (shape_cols hs h0)
    refine ⟨h2, h3, h4, fun v => ?_⟩
    rw [← h5 v]
    exact ⟨InSpan.congr fun k hk c => by rw [fn_augG k hk], InSpan.congr fun k hk c => by rw [fn_augG k hk]⟩
def at_ (p : List Nat) (c : Nat) : Nat := p.idxOf c
def solX (R : Grid) (p : List Nat) (n : Nat) : List Int := (List.range n).map fun c => if c ∈ p then el R (at_ p c) n else 0
def frees (p : List Nat) (n : Nat) : List Nat := (List.range n).filter fun c => decide (c ∉ p)
def kerRow (R : Grid) (p : List Nat) (n c : Nat) : List Int := (List.range n).map fun j => if j = c then 1 else if j ∈ p then el R (at_ p j) c else 0
def solK (R : Grid) (p : List Nat) (n : Nat) : Grid := (frees p n).map (kerRow R p n)
theorem piv_mem {p : List Nat} {j : Nat} (h : j < p.length) : piv p j ∈ p := by
  unfold piv; rw [List.getD_eq_getElem?_getD, List.getElem?_eq_getElem h]; exact List.getElem_mem h
theorem mem_piv {p : List Nat} {c : Nat} : c ∈ p ↔ Piv p.length (piv p) c := by
  constructor
  · intro h
    obtain ⟨j, hj, e⟩ := List.getElem_of_mem h
    exact ⟨j, hj, by unfold piv; rw [List.getD_eq_getElem?_getD, List.getElem?_eq_getElem hj]; exact e⟩
  · rintro ⟨j, hj, rfl⟩; exact piv_mem hj
theorem at_lt {p : List Nat} {c : Nat} (h : c ∈ p) : at_ p c < p.length := List.idxOf_lt_length_of_mem h
theorem at_piv {p : List Nat} {c : Nat} (h : c ∈ p) : piv p (at_ p c) = c := by
  have hl := at_lt h
  unfold piv
  rw [List.getD_eq_getElem?_getD, List.getElem?_eq_getElem hl]
  exact List.getElem_idxOf hl
theorem getD_map_range {n : Nat} (f : Nat → Int) {c : Nat} (h : c < n) : ((List.range n).map f).getD c 0 = f c := by
  simp [List.getD_eq_getElem?_getD, List.getElem?_map, List.getElem?_range h]
section
variable {h n : Nat} {A : Mat B} {b : Vec B} {R : Grid} {p : List Nat}
theorem Sys.at_of (s : Sys h n A b R p) {j : Nat} (hj : j < p.length) : at_ p (piv p j) = j := s.rref.inj (at_lt (piv_mem hj)) hj (at_piv (piv_mem hj))
theorem Sys.lt (s : Sys h n A b R p) (hn : n ∉ p) {j : Nat} (hj : j < p.length) : piv p j < n := by
  have := s.rref.lt j hj
  have : piv p j ≠ n := fun e => hn (e ▸ piv_mem hj)
  omega
theorem Sys.isSol (s : Sys h n A b R p) (hn : n ∉ p) : IsSol n p.length (piv p) (fn R) (vec (solX R p n)) := by
  refine ⟨fun j hj => ?_, fun c hc hf => ?_⟩
  · unfold vec solX
    rw [getD_map_range _ (s.lt hn hj), if_pos (piv_mem hj), s.at_of hj]; rfl
  · unfold vec solX
    rw [getD_map_range _ hc, if_neg fun hm => hf (mem_piv.1 hm)]; rfl
theorem Sys.bytes_X (s : Sys h n A b R p) : ByteL (solX R p n) := by
  intro i
  by_cases hi : i < n
  · unfold solX; rw [getD_map_range _ hi]
    split
    · exact s.bytes _ _
    · exact byte_zero
  · rw [getD_out (by simp [solX]; omega)]; exact byte_zero
end
def solveG (m : Grid) (b : List Int) (n : Nat) : Option (List Int × Grid) :=
  let r := reduce (augG m b n)
  if n ∈ r.2 then none else some (solX r.1 r.2 n, solK r.1 r.2 n)
end QMat
end
